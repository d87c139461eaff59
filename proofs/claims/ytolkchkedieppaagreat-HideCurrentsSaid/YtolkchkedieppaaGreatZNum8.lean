/- digit of package num: one limb of a quotient (Knuth, algorithm D). -/
import Derived.Test.YtolkchkedieppaaGreatZTakes
import Derived.Test.YtolkchkedieppaaGreatZNum7
import Derived.Deep.RegionHeld3
import Derived.Deep.DrawnRows
set_option linter.unusedVariables false
set_option linter.unusedSimpArgs false
namespace Go.Proofs.YtolkchkedieppaaGreat
open Go.RowKit
attribute [local go_sem ↓] Go.wp_at_zero Go.wp_at_succ
theorem grown_drew {w w' : World} {r : Option Nat} (h : w.grownBy w' r) : w.grownBy w'.drew r := ⟨h.os, h.tape, h.output, h.size, h.block⟩
theorem grown_set {w w' : World} {g : Nat} (h : w.grownBy w' (some g)) (o : Nat) (u : Value) : w.grownBy (w'.setCell ⟨g, o, none⟩ u) (some g) :=
 ⟨h.os, h.tape, h.output, by simp only [World.setCell, Array.size_modify]; exact h.size, fun k hk hne => by
  rw [Below.heap_setCell _ _ _ _ (by intro e; exact hne (by rw [e]))]; exact h.block k hk hne⟩
theorem IsSl.grown {w w' : World} {a : Option Addr} {b o c n g : Nat} {q : Nat → Value} (h : IsSl w a b o c n q) (hg : w.grownBy w' (some g)) (hne : b ≠ g) : IsSl w' a b o c n q where
 cap := h.cap
 nc := h.nc
 at_ := h.at_
 lt := fun p => Nat.lt_of_lt_of_le (h.lt p) hg.size
 cell := fun i hi => hg.cell (h.cell i hi) (by intro e; exact hne (Option.some.inj e))
/-- the digits from j on -/
def win (f : Nat → Nat) (j : Nat) : Nat → Nat := fun i => f (j + i)
theorem row_drawn {w w' : World} {b t n : Nat} {q : Nat → Value} (h : w.rowIs b t n q) (hd : Drawn w w') : w'.rowIs b t n q := by
 obtain ⟨k, rfl⟩ := hd
 exact h
theorem grown_of_drawn {w w' : World} {r : Option Nat} (hd : Drawn w w') : w.grownBy w' r := by
 obtain ⟨k, rfl⟩ := hd
 exact ⟨rfl, rfl, rfl, Nat.le_refl _, fun _ _ _ => rfl⟩
theorem win_upd (f : Nat → Nat) (j k d : Nat) : win (upd f (j + k) d) j = upd (win f j) k d := by
 funext i
 unfold win upd
 by_cases h : i = k
 ·rw [if_pos h, if_pos (by omega)]
 ·rw [if_neg h, if_neg (by omega)]
/-- one digit less a product's digit and a borrow -/
theorem sub_digit (x l b d bb : Nat) (hx : x < 4294967296) (hl : l < 4294967296) (hb : b ≤ 1) (hd : ((x : Int) - l - b) % 4294967296 = d) (hbb : borrow x l b = bb) : d + l + b = x + 4294967296 * bb ∧ bb ≤ 1 ∧ d < 4294967296 := by
 unfold borrow at hbb
 split at hbb <;> omega
theorem last_step (W g y u c b d un bf P B : Nat) (h : W + g * y = u + (c + b) * P) (hs : d + c + b = un + B * bf) : W + d * P + g * y = u + un * P + bf * (P * B) := by
 have e : (d + c + b) * P = (un + B * bf) * P := by rw [hs]
 grind
theorem end_plain {W gd y U N bf : Nat} (h : W + gd * y = U + bf * N) (hb : bf = 0) (hq : U / y ≤ gd) (hy : 0 < y) : gd = U / y ∧ W = U % y := by
 subst hb
 rw [Nat.zero_mul, Nat.add_zero] at h
 have h1 : gd ≤ U / y := by rw [Nat.le_div_iff_mul_le hy]; omega
 have h2 : gd = U / y := by omega
 refine ⟨h2, ?_⟩
 have := Nat.div_add_mod U y
 rw [h2, Nat.mul_comm] at h
 omega
theorem end_back {A W gd y U P ov un : Nat} (h : W + un * P + gd * y = U + P * 4294967296) (hA : A + ov * P = W + y) (hAl : A < P) (hWl : W < P) (hun : un < 4294967296) (hov : ov ≤ 1) (hy : 0 < y) (hyl : y < P) (hgd : gd ≤ U / y + 1) :
  gd = U / y + 1 ∧ A = U % y ∧ un + ov = 4294967296 := by
 have hd := Nat.div_add_mod U y
 have hm := Nat.mod_lt U hy
 have hsum : (un + ov) * P = un * P + ov * P := Nat.add_mul _ _ _
 have h2 : U / y + 1 ≤ gd := by
  rcases Nat.lt_or_ge (U / y) gd with q | q
  ·exact q
  ·exfalso
   have := Nat.mul_le_mul_right y q
   rw [Nat.mul_comm (U / y)] at this
   have h3 : un * P + P ≤ 4294967296 * P := by rw [← Nat.succ_mul]; exact Nat.mul_le_mul_right _ hun
   rw [Nat.mul_comm 4294967296 P] at h3
   omega
 have h3 : gd = U / y + 1 := by omega
 have h4 : gd * y = y * (U / y) + y := by rw [h3, Nat.add_mul, Nat.one_mul, Nat.mul_comm]
 have h5 : A + (un + ov) * P = U % y + P * 4294967296 := by omega
 have h6 : un + ov = 4294967296 := by
  rcases Nat.lt_or_ge (un + ov) 4294967296 with q | q
  ·exfalso
   have : (un + ov) * P + P ≤ 4294967296 * P := by rw [← Nat.succ_mul]; exact Nat.mul_le_mul_right _ q
   rw [Nat.mul_comm 4294967296 P] at this
   omega
  ·omega
 refine ⟨h3, ?_, h6⟩
 rw [h6, Nat.mul_comm 4294967296 P] at h5
 omega
/-- what is known of the numbers that digit works on -/
structure DigFacts (U y n T u2 v1 v2 : Nat) : Prop where
 a : (T * 4294967296 + u2) * 4294967296 ^ (n - 2) ≤ U
 b : U < (T * 4294967296 + u2 + 1) * 4294967296 ^ (n - 2)
 c : (v1 * 4294967296 + v2) * 4294967296 ^ (n - 2) ≤ y
 d : y < (v1 * 4294967296 + v2 + 1) * 4294967296 ^ (n - 2)
 e : 4294967296 * 4294967296 ^ (n - 2) ≤ y
 lt : U < y * 4294967296
 y0 : 0 < y
theorem DigFacts.high {U y n T u2 v1 v2 gs rs : Nat} (h : DigFacts U y n T u2 v1 v2) (ht : gs * v1 + rs = T) (hc : rs * 4294967296 + u2 < gs * v2) : U / y < gs :=
 guess_high (Bpow_pos _) h.b h.c ht hc (Nat.div_mul_le_self _ _)
theorem DigFacts.low {U y n T u2 v1 v2 gs rs : Nat} (h : DigFacts U y n T u2 v1 v2) (ht : gs * v1 + rs = T) (hc : gs * v2 ≤ rs * 4294967296 + u2) (hg : gs < 4294967296) : gs ≤ U / y + 1 :=
 guess_low (Bpow_pos _) h.a h.d h.e ht hc hg (by rw [Nat.mul_comm]; exact Nat.lt_mul_div_succ _ h.y0)
theorem DigFacts.first {U y n T u2 v1 v2 : Nat} (h : DigFacts U y n T u2 v1 v2) (hv : 0 < v1) (hu : u2 < 4294967296) : U / y ≤ T / v1 := by
 refine guess_first (P := 4294967296 ^ (n - 2) * 4294967296) (Nat.mul_pos (Bpow_pos _) (by omega)) hv ?_ ?_ (Nat.div_mul_le_self U y)
 ·refine Nat.lt_of_lt_of_le h.b ?_
  have : (T * 4294967296 + u2 + 1) * 4294967296 ^ (n - 2) ≤ ((T + 1) * 4294967296) * 4294967296 ^ (n - 2) := Nat.mul_le_mul_right _ (by omega)
  have e : (T + 1) * (4294967296 ^ (n - 2) * 4294967296) = ((T + 1) * 4294967296) * 4294967296 ^ (n - 2) := by ac_rfl
  rw [e]; exact this
 ·refine Nat.le_trans ?_ h.c
  have e : v1 * (4294967296 ^ (n - 2) * 4294967296) = v1 * 4294967296 * 4294967296 ^ (n - 2) := by ac_rfl
  rw [e]; exact Nat.mul_le_mul_right _ (by omega)
theorem DigFacts.small {U y n T u2 v1 v2 : Nat} (h : DigFacts U y n T u2 v1 v2) : U / y < 4294967296 := by
 rw [Nat.div_lt_iff_lt_mul h.y0, Nat.mul_comm]; exact h.lt
/-- where the guess is not below the base, the rest stays below it -/
theorem no_break {gs rs v1 v2 T : Nat} (ht : gs * v1 + rs = T) (hb : T ≤ v1 * 4294967296 + v2) (hv : v2 < 4294967296) (hg : 4294967297 ≤ gs) : rs + v1 < 4294967296 := by
 have := Nat.mul_le_mul_right v1 hg
 omega
theorem prod_lt {a b : Nat} (ha : a < 4294967296) (hb : b < 4294967296) : a * b ≤ 4294967295 * 4294967295 := Nat.mul_le_mul (by omega) (by omega)
theorem dec_eq {gs rs v1 T : Nat} (ht : gs * v1 + rs = T) (hg : 0 < gs) : (gs - 1) * v1 + (rs + v1) = T := by
 obtain ⟨k, rfl⟩ : ∃ k, gs = k + 1 := ⟨gs - 1, by omega⟩
 rw [Nat.add_mul, Nat.one_mul] at ht
 simp only [Nat.add_sub_cancel]; omega
set_option maxHeartbeats 8000000 in
set_option maxRecDepth 100000 in
theorem digit_core (g m j n cc : Nat) (f : Nat → Nat) (a2 : Option Addr) (b2 o2 c2 y : Nat) (w : World) (i2 : IsSl w a2 b2 o2 c2 n (lc y)) (hny : nl y = n) (hn2 : 2 ≤ n) (hne : b2 ≠ g)
  (hrow : w.rowIs g 166 m (fun t => .int .u32 (f t : Nat))) (hf : ∀ t, t < m → f t < 4294967296) (hj : j + n + 1 ≤ m) (hcc : n + 1 ≤ cc) (bn : n ≤ 1099511627776)
  (U T u0 u1 u2 v1 v2 : Nat) (hUe : valF (win f j) (n + 1) = U) (hT : bits BinOp.or IntKind.u64 ((u0 : Int) * 4294967296) (u1 : Int) = (T : Int)) (hfa : DigFacts U y n T u2 v1 v2)
  (hu0 : u0 < 4294967296) (hu1 : u1 < 4294967296) (hu2 : u2 < 4294967296) (hv1 : v1 < 4294967296) (hv2 : v2 < 4294967296) (htop : 2147483648 ≤ v1) (htb : T ≤ v1 * 4294967296 + v2)
  (hc0 : w.cell? ⟨g, j + n, none⟩ = some (.int .u32 (u0 : Nat))) (hc1 : w.cell? ⟨g, j + (n - 1), none⟩ = some (.int .u32 (u1 : Nat))) (hc2 : w.cell? ⟨g, j + (n - 2), none⟩ = some (.int .u32 (u2 : Nat)))
  (hd1 : w.cell? ⟨b2, o2 + (n - 1), none⟩ = some (.int .u32 (v1 : Nat))) (hd2 : w.cell? ⟨b2, o2 + (n - 2), none⟩ = some (.int .u32 (v2 : Nat))) :
  Calls Tryz.prog 146 #[.slice (some ⟨g, j, none⟩) (n + 1) cc, .slice a2 n c2] w fun e w' => ∃ f' : Nat → Nat,
   e = .returned (.int .u32 (U / y : Nat)) ∧ w'.rowIs g 166 m (fun t => .int .u32 (f' t : Nat)) ∧ (∀ t, t < j ∨ j + n < t → f' t = f t) ∧
   (∀ t, t < m → f' t < 4294967296) ∧ valF (win f' j) (n + 1) = U % y ∧ w.grownBy w' (some g) := by
 have hx1 := fun W => ix32 i2 ((n : Int) - 1) (by omega) (by omega) n c2 W
 have hx2 := fun W => ix32 i2 ((n : Int) - 2) (by omega) (by omega) n c2 W
 have en1 : ((n : Int) - 1).toNat = n - 1 := by omega
 have en2 : ((n : Int) - 2).toNat = n - 2 := by omega
 rw [en1] at hx1
 rw [en2] at hx2
 clear en1 en2
 have HY := Lib.hid hny
 have HF := Lib.hid hf
 have HUE := Lib.hid hUe
 have HI := Lib.hid i2
 have HROW := Lib.hid hrow
 clear hny hf hUe i2 hrow
 have q0 : 0 ≤ (T : Int) / (v1 : Int) := Int.ediv_nonneg (by omega) (by omega)
 have q1 : (T : Int) / (v1 : Int) ≤ T := Int.ediv_le_self _ (by omega)
 have q2 : (T : Int) % (v1 : Int) < v1 := Int.emod_lt_of_pos _ (by omega)
 have q3 : 0 ≤ (T : Int) % (v1 : Int) := Int.emod_nonneg _ (by omega)
 go_enter Tryz.func146, Tryz.ntmps146
 go_wp2
 go_quiet (fail)
 go_wp2
 go_quiet (fail)
 go_wp2
 go_loopw [7, 8] (fun gv rv wr => ∃ gs rs : Nat, gv = .int .u64 gs ∧ rv = .int .u64 rs ∧ gs * v1 + rs = T ∧ U / y ≤ gs ∧ rs < 4294967296 ∧ Drawn w wr) (fun gv _ _ => (intOf gv).toNat)
 case atStart => exact ⟨T / v1, T % v1, by congr 1, by congr 1, by rw [Nat.mul_comm]; exact Nat.div_add_mod _ _, hfa.first (by omega) hu2, by have := Nat.mod_lt T (show v1 > 0 by omega); omega, (Drawn.of _ _).step _⟩
 case round =>
  obtain ⟨gs, rs, rfl, rfl, ht1, hql, hrs, ⟨nw, rfl⟩⟩ := hrel
  have HT1 := Lib.hid ht1
  have hgT : gs ≤ T := by
   have : gs * 1 ≤ gs * v1 := Nat.mul_le_mul_left _ (by omega)
   omega
  clear ht1 q0 q1 q2 q3 hT
  by_cases hg : 4294967296 ≤ gs
  ·have hq : U / y < gs := Nat.lt_of_lt_of_le hfa.small hg
   have hgd : decide ((0 : Int) < (gs : Int) / 4294967296) = true := by simp; omega
   have hg0 : 0 < gs := Nat.lt_of_le_of_lt (Nat.zero_le _) hq
   have HDEC := Lib.hid (dec_eq HT1.out hg0)
   by_cases hbr : 4294967296 ≤ rs + v1
   ·have hbd : decide ((0 : Int) < ((rs : Int) + (v1 : Int)) / 4294967296) = true := by simp; omega
    have hgl : gs - 1 < 4294967296 := by
     rcases Nat.lt_or_ge gs 4294967297 with q | q
     ·omega
     ·have := no_break HT1.out htb hv2 q; omega
    have hlow : gs - 1 ≤ U / y + 1 := by
     refine hfa.low HDEC.out ?_ hgl
     have h1 := prod_lt hgl hv2
     omega
    go_wp2
    go_quiet (fail)
    go_wp2
    obtain ⟨gd, hgd⟩ : ∃ gd : Nat, gd = gs - 1 := ⟨_, rfl⟩
    have hge : ((gs : Int) - 1) = (gd : Int) := by omega
    simp only [hge]
    have hq1 : U / y ≤ gd := by omega
    have hq2 : gd ≤ U / y + 1 := by omega
    have hq3 : gd < 4294967296 := by omega
    clear hge hgd hgl hlow hbr hg0 hq hbd
    go_loopw [9, 10, 84] (fun cv bv iv wr => ∃ (k cr bw : Nat) (f1 : Nat → Nat), k ≤ n ∧ iv = .int .i64 k ∧ cv = .int .u64 cr ∧ cr < 4294967296 ∧ bv = .int .u32 bw ∧ bw ≤ 1 ∧ wr.rowIs g 166 m (fun t => .int .u32 (f1 t : Nat)) ∧
      (∀ t, t < j ∨ j + k ≤ t → f1 t = f t) ∧ (∀ t, t < m → f1 t < 4294967296) ∧ valF (win f1 j) k + gd * valF (dig y) k = valF (win f j) k + (cr + bw) * 4294967296 ^ k ∧ w.grownBy wr (some g)) (fun _ _ iv _ => n - (intOf iv).toNat)
    case atStart => exact ⟨0, 0, 0, f, Nat.zero_le _, rfl, rfl, by omega, rfl, by omega, row_drawn HROW.out (by first | exact Drawn.of _ _ | exact (Drawn.of _ _).step _ | exact ((Drawn.of _ _).step _).step _), fun _ _ => rfl, HF.out, by simp [valF], grown_of_drawn (by first | exact Drawn.of _ _ | exact (Drawn.of _ _).step _ | exact ((Drawn.of _ _).step _).step _)⟩
    case round =>
     obtain ⟨k, cr, bw, f1, hk, rfl, rfl, hcr, rfl, hbw, hrow, hsame, hf1, hv, hgr⟩ := hrel
     have HV := Lib.hid hv
     have HS := Lib.hid hsame
     have HF1 := Lib.hid hf1
     clear hv hsame hf1 hx1 hx2 hc0 hc1 hc2 hd1 hd2
     have j2 := HI.out.grown hgr hne
     by_cases hlt : k < n
     ·have hcell := hrow.cell (i := j + k) (by omega)
      have hfz := hrow.frozen (j + k)
      have hvc := j2.cell k hlt
      simp only [lc] at hvc
      have hix := fun W => ix32 j2 (k : Int) (by omega) (by omega) n c2 W
      simp only [Int.toNat_natCast] at hix
      have hdy := dig_lt y k
      have hfl := HF1.out (j + k) (by omega)
      have hm0 : (0 : Int) ≤ (gd : Int) * (dig y k : Int) := Int.mul_nonneg (by omega) (by omega)
      have hm1 : (gd : Int) * (dig y k : Int) ≤ 18446744065119617025 := by have := prod_lt hq3 hdy; rw [← Int.natCast_mul]; omega
      obtain ⟨l, hl⟩ := Int.eq_ofNat_of_zero_le (a := ((gd : Int) * (dig y k : Int) + (cr : Int)) % 4294967296) (by omega)
      obtain ⟨c', hc'⟩ := Int.eq_ofNat_of_zero_le (a := ((gd : Int) * (dig y k : Int) + (cr : Int)) / 4294967296) (by omega)
      have hll : l < 4294967296 := by omega
      have hcl : c' < 4294967296 := by omega
      have htc : gd * dig y k + cr = l + c' * 4294967296 := by
       have : ((gd * dig y k + cr : Nat) : Int) = (gd : Int) * (dig y k : Int) + (cr : Int) := by rw [Int.natCast_add, Int.natCast_mul]
       omega
      obtain ⟨d, hd⟩ := Int.eq_ofNat_of_zero_le (a := ((f1 (j + k) : Int) - l - bw) % 4294967296) (by omega)
      obtain ⟨bb, hbb⟩ := Int.eq_ofNat_of_zero_le (borrow_le (f1 (j + k)) l bw).1
      have hsd := sub_digit _ _ _ _ _ hfl hll hbw hd hbb
      have hbb1 : bb ≤ 1 := hsd.2.1
      have hdl : d < 4294967296 := hsd.2.2
      have HST := Lib.hid (mulsub_step _ _ _ _ _ _ _ _ _ _ _ _ _ _ HV.out htc hsd.1)
      have HL := Lib.hid hl
      have HC := Lib.hid hc'
      have HD := Lib.hid hd
      have HBB := Lib.hid hbb
      clear hl hc' hd hbb htc hsd j2
      go_wp2_with (go_at_call 190; refine (sub32_any _ _ _ _ (by omega) (by omega) (by omega) (by omega) (by omega) (by omega)).mono ?_; rintro e w' ⟨rfl, rfl⟩)
      go_roundw
      case rel =>
       refine ⟨k + 1, c', bb, upd f1 (j + k) d, by omega, by go_num, by rw [← HC.out], hcl, by rw [HL.out, HBB.out], hbb1, row_upd hrow _ _ (by rw [HL.out, HD.out]), ?_, upd_lt HF1.out hdl, ?_, grown_set hgr _ _⟩
       ·intro t ht
        unfold upd
        rw [if_neg (by omega)]
        exact HS.out t (by omega)
       ·have h := HST.out
        have e : win f j k = f1 (j + k) := (HS.out (j + k) (by omega)).symm
        simp only [valF, win_upd, valF_upd _ k _ k (Nat.le_refl _), upd_self, Nat.pow_succ]
        rw [e]
        exact h
      case measure => simp [intOf]; omega
     ·obtain rfl : n = k := by omega
      have hcell := hrow.cell (i := j + n) (by omega)
      have hfz := hrow.frozen (j + n)
      have hfl := HF1.out (j + n) (by omega)
      obtain ⟨d, hd⟩ := Int.eq_ofNat_of_zero_le (a := ((f1 (j + n) : Int) - cr - bw) % 4294967296) (by omega)
      obtain ⟨bf, hbf⟩ := Int.eq_ofNat_of_zero_le (borrow_le (f1 (j + n)) cr bw).1
      have hsd := sub_digit _ _ _ _ _ hfl hcr hbw hd hbf
      have hbf1 : bf ≤ 1 := hsd.2.1
      have hdl : d < 4294967296 := hsd.2.2
      have hW := last_step _ _ _ _ _ _ _ _ _ _ _ HV.out hsd.1
      have hy0 := valF_nl y
      rw [HY.out] at hy0
      have hun : win f j n = f1 (j + n) := (HS.out (j + n) (by omega)).symm
      have hu0 : valF (win f j) n + f1 (j + n) * 4294967296 ^ n = U := by rw [← HUE.out, valF, hun]
      rw [hy0, hu0] at hW
      have HSD := Lib.hid hsd.1
      have HW := Lib.hid hW
      have HD := Lib.hid hd
      have HYN := Lib.hid hy0
      clear hsd hW hy0 hun hu0 hd
      by_cases hb0 : bf = 0
      ·have hbz : borrow (f1 (j + n)) cr bw = 0 := by rw [hbf, hb0]; rfl
       have HB0 := Lib.hid hb0
       clear hb0 hbf
       go_wp2_with (go_at_call 190; refine (sub32_any _ _ _ _ (by omega) (by omega) (by omega) (by omega) (by omega) (by omega)).mono ?_; rintro e w' ⟨rfl, rfl⟩)
       go_ret
       have hend := end_plain HW.out HB0.out hq1 hfa.y0
       refine ⟨upd f1 (j + n) d, by rw [← hend.1]; rfl, row_upd hrow _ _ (by rw [HD.out]), ?_, upd_lt HF1.out hdl, ?_, grown_set hgr _ _⟩
       ·intro t ht
        unfold upd
        rw [if_neg (by omega)]
        exact HS.out t (by omega)
       ·rw [win_upd, valF, valF_upd _ n _ n (Nat.le_refl _), upd_self]
        exact hend.2
      ·have hb1 : bf = 1 := by omega
       have hbz : borrow (f1 (j + n)) cr bw = 1 := by rw [hbf, hb1]; rfl
       have HB1 := Lib.hid hb1
       have hgd1 : 1 ≤ gd := by
        have := HW.out
        rw [hb1, Nat.one_mul] at this
        rcases Nat.eq_zero_or_pos gd with q | q
        ·exfalso
         rw [q, Nat.zero_mul] at this
         have h1 := valF_lt (win f1 j) n (fun i hi => HF1.out _ (by omega))
         have h2 : d * 4294967296 ^ n + 4294967296 ^ n ≤ 4294967296 * 4294967296 ^ n := by rw [← Nat.succ_mul]; exact Nat.mul_le_mul_right _ hdl
         rw [Nat.mul_comm 4294967296] at h2
         omega
        ·exact q
       clear hb1 hbf hb0
       go_wp2_with (go_at_call 190; refine (sub32_any _ _ _ _ (by omega) (by omega) (by omega) (by omega) (by omega) (by omega)).mono ?_; rintro e w' ⟨rfl, hww⟩; have hww2 := hww.symm; clear hww; subst hww2)
       have hrow2 : ∀ u, u = Value.int IntKind.u32 (d : Nat) → (wr.setCell ⟨g, j + n, none⟩ u).rowIs g 166 m (fun t => .int .u32 (upd f1 (j + n) d t : Nat)) := fun u hu => row_upd hrow _ _ hu
       have hgr2 : ∀ u, w.grownBy (wr.setCell ⟨g, j + n, none⟩ u) (some g) := fun u => grown_set hgr _ _
       have HR2 := Lib.hid hrow2
       have HG2 := Lib.hid hgr2
       clear hrow2 hgr2 hrow hgr hbz
       obtain ⟨F2, hF2⟩ : ∃ F2, F2 = upd f1 (j + n) d := ⟨_, rfl⟩
       have hF2l : ∀ t, t < m → F2 t < 4294967296 := by rw [hF2]; exact upd_lt HF1.out hdl
       have hF2s : ∀ t, t < j ∨ j + n < t → F2 t = f t := by
        intro t ht
        rw [hF2]
        unfold upd
        rw [if_neg (by omega)]
        exact HS.out t (by omega)
       have hF2w : valF (win F2 j) n = valF (win f1 j) n := by rw [hF2, win_upd, valF_upd _ n _ n (Nat.le_refl _)]
       have hF2n : F2 (j + n) = d := by rw [hF2, upd_self]
       rw [← hF2] at HR2
       have H1 := Lib.hid hF2l
       have H2 := Lib.hid hF2s
       have H3 := Lib.hid hF2w
       have H4 := Lib.hid hF2n
       clear hF2l hF2s hF2w hF2n hF2 hcell hfz
       go_loopw [13, 133] (fun ov iv wr => ∃ (k o3 : Nat) (f3 : Nat → Nat), k ≤ n ∧ iv = .int .i64 k ∧ ov = .int .u32 o3 ∧ o3 ≤ 1 ∧ wr.rowIs g 166 m (fun t => .int .u32 (f3 t : Nat)) ∧
        (∀ t, t < j ∨ j + k ≤ t → f3 t = F2 t) ∧ (∀ t, t < m → f3 t < 4294967296) ∧ valF (win f3 j) k + o3 * 4294967296 ^ k = valF (win F2 j) k + valF (dig y) k ∧ w.grownBy wr (some g)) (fun _ iv _ => n - (intOf iv).toNat)
       case atStart => exact ⟨0, 0, F2, Nat.zero_le _, rfl, rfl, by omega, HR2.out _ (by rw [HD.out]), fun _ _ => rfl, H1.out, by simp [valF], HG2.out _⟩
       case round =>
        obtain ⟨k, o3, f3, hk, rfl, rfl, ho3, hrow, hsame3, hf3, hv3, hgr⟩ := hrel
        have HV3 := Lib.hid hv3
        have HS3 := Lib.hid hsame3
        have HF3 := Lib.hid hf3
        clear hv3 hsame3 hf3
        have j2 := HI.out.grown hgr hne
        by_cases hlt : k < n
        ·have hcell := hrow.cell (i := j + k) (by omega)
         have hfz := hrow.frozen (j + k)
         have hvc := j2.cell k hlt
         simp only [lc] at hvc
         have hix := fun W => ix32 j2 (k : Int) (by omega) (by omega) n c2 W
         simp only [Int.toNat_natCast] at hix
         have hdy := dig_lt y k
         have hfl3 := HF3.out (j + k) (by omega)
         have HST := Lib.hid (add_step _ _ _ o3 (f3 (j + k)) (dig y k) _ HV3.out)
         clear j2
         go_wp2
         go_region_with (go_at_call 191; refine (add32_any _ _ _ _ (by omega) (by omega) (by omega) (by omega) (by omega) (by omega)).mono ?_; rintro e w' ⟨rfl, rfl⟩)
         all_goals go_wp2
         all_goals
          go_roundw
          case rel =>
           refine ⟨k + 1, (f3 (j + k) + dig y k + o3) / 4294967296, upd f3 (j + k) ((f3 (j + k) + dig y k + o3) % 4294967296), by omega, by go_num, by congr 1, by omega, (row_upd hrow _ _ (by congr 1)).drew, ?_, upd_lt HF3.out (Nat.mod_lt _ (by omega)), ?_, grown_drew (grown_set hgr _ _)⟩
           ·intro t ht
            unfold upd
            rw [if_neg (by omega)]
            exact HS3.out t (by omega)
           ·have h := HST.out
            have e : win F2 j k = f3 (j + k) := (HS3.out (j + k) (by omega)).symm
            simp only [valF, win_upd, valF_upd _ k _ k (Nat.le_refl _), upd_self, Nat.pow_succ]
            rw [e]
            exact h
          case measure => simp [intOf]; omega
        ·obtain rfl : n = k := by omega
         have hcell := hrow.cell (i := j + n) (by omega)
         have hfz := hrow.frozen (j + n)
         have e1 : f3 (j + n) = d := by rw [HS3.out (j + n) (by omega), H4.out]
         rw [e1] at hcell
         have hend : gd = U / y + 1 ∧ valF (win f3 j) n = U % y ∧ d + o3 = 4294967296 := by
          have h1 := HW.out
          rw [HB1.out, Nat.one_mul] at h1
          have h2 := HV3.out
          rw [H3.out, HYN.out] at h2
          refine end_back h1 h2 (valF_lt _ _ (fun i hi => HF3.out _ (by omega))) (valF_lt _ _ (fun i hi => HF1.out _ (by omega))) hdl ho3 hfa.y0 ?_ hq2
          rw [← HY.out]; exact lt_pow_nl y
         have HE := Lib.hid hend
         have hsum : 4294967296 ≤ d + o3 := by omega
         have hsum2 : d + o3 ≤ 4294967296 := by omega
         clear hend e1
         go_wp2
         go_ret
         have hend := HE.out
         refine ⟨upd f3 (j + n) 0, ?_, row_upd hrow _ _ ?_, ?_, upd_lt HF3.out (by omega), ?_, grown_set hgr _ _⟩
         ·show Ending.returned (.int .u32 ((gd : Int) - 1)) = _
          rw [hend.1]
          congr 2
          omega
         ·congr 1; omega
         ·intro t ht
          unfold upd
          rw [if_neg (by omega), HS3.out t (by omega)]
          exact H2.out t (by omega)
         ·rw [win_upd, valF, valF_upd _ n _ n (Nat.le_refl _), upd_self, hend.2.1]
          omega
   ·go_wp2
    go_quiet (fail)
    go_wp2
    go_roundw
    case rel => exact ⟨gs - 1, rs + v1, by congr 1; omega, by congr 1, HDEC.out, by omega, by omega, by first | exact Drawn.of _ _ | exact (Drawn.of _ _).step _ | exact ((Drawn.of _ _).step _).step _⟩
    case measure => simp [intOf]; omega
  ·have hm0 : (0 : Int) ≤ (gs : Int) * (v2 : Int) := Int.mul_nonneg (by omega) (by omega)
   have hm1 : (gs : Int) * (v2 : Int) ≤ 18446744065119617025 := by have := prod_lt (show gs < 4294967296 by omega) hv2; rw [← Int.natCast_mul]; omega
   have hor := or_join rs u2 hrs hu2
   have hgd : decide ((0 : Int) < (gs : Int) / 4294967296) = false := by simp; omega
   have hmc : (gs : Int) * (v2 : Int) = ((gs * v2 : Nat) : Int) := (Int.natCast_mul _ _).symm
   by_cases hc : rs * 4294967296 + u2 < gs * v2
   ·have hq : U / y < gs := hfa.high HT1.out hc
    have hci : (rs : Int) * 4294967296 + (u2 : Int) < (gs : Int) * (v2 : Int) := by rw [hmc]; omega
    clear hc hmc
    have hg0 : 0 < gs := Nat.lt_of_le_of_lt (Nat.zero_le _) hq
    have HDEC := Lib.hid (dec_eq HT1.out hg0)
    by_cases hbr : 4294967296 ≤ rs + v1
    ·have hbd : decide ((0 : Int) < ((rs : Int) + (v1 : Int)) / 4294967296) = true := by simp; omega
     have hgl : gs - 1 < 4294967296 := by
      rcases Nat.lt_or_ge gs 4294967297 with q | q
      ·omega
      ·have := no_break HT1.out htb hv2 q; omega
     have hlow : gs - 1 ≤ U / y + 1 := by
      refine hfa.low HDEC.out ?_ hgl
      have h1 := prod_lt hgl hv2
      omega
     go_wp2
     go_quiet (fail)
     go_wp2
     obtain ⟨gd, hgd⟩ : ∃ gd : Nat, gd = gs - 1 := ⟨_, rfl⟩
     have hge : ((gs : Int) - 1) = (gd : Int) := by omega
     simp only [hge]
     have hq1 : U / y ≤ gd := by omega
     have hq2 : gd ≤ U / y + 1 := by omega
     have hq3 : gd < 4294967296 := by omega
     clear hge hgd hgl hlow hbr hg0 hq hbd
     go_loopw [9, 10, 84] (fun cv bv iv wr => ∃ (k cr bw : Nat) (f1 : Nat → Nat), k ≤ n ∧ iv = .int .i64 k ∧ cv = .int .u64 cr ∧ cr < 4294967296 ∧ bv = .int .u32 bw ∧ bw ≤ 1 ∧ wr.rowIs g 166 m (fun t => .int .u32 (f1 t : Nat)) ∧
       (∀ t, t < j ∨ j + k ≤ t → f1 t = f t) ∧ (∀ t, t < m → f1 t < 4294967296) ∧ valF (win f1 j) k + gd * valF (dig y) k = valF (win f j) k + (cr + bw) * 4294967296 ^ k ∧ w.grownBy wr (some g)) (fun _ _ iv _ => n - (intOf iv).toNat)
     case atStart => exact ⟨0, 0, 0, f, Nat.zero_le _, rfl, rfl, by omega, rfl, by omega, row_drawn HROW.out (by first | exact Drawn.of _ _ | exact (Drawn.of _ _).step _ | exact ((Drawn.of _ _).step _).step _), fun _ _ => rfl, HF.out, by simp [valF], grown_of_drawn (by first | exact Drawn.of _ _ | exact (Drawn.of _ _).step _ | exact ((Drawn.of _ _).step _).step _)⟩
     case round =>
      obtain ⟨k, cr, bw, f1, hk, rfl, rfl, hcr, rfl, hbw, hrow, hsame, hf1, hv, hgr⟩ := hrel
      have HV := Lib.hid hv
      have HS := Lib.hid hsame
      have HF1 := Lib.hid hf1
      clear hv hsame hf1 hx1 hx2 hc0 hc1 hc2 hd1 hd2
      have j2 := HI.out.grown hgr hne
      by_cases hlt : k < n
      ·have hcell := hrow.cell (i := j + k) (by omega)
       have hfz := hrow.frozen (j + k)
       have hvc := j2.cell k hlt
       simp only [lc] at hvc
       have hix := fun W => ix32 j2 (k : Int) (by omega) (by omega) n c2 W
       simp only [Int.toNat_natCast] at hix
       have hdy := dig_lt y k
       have hfl := HF1.out (j + k) (by omega)
       have hm0 : (0 : Int) ≤ (gd : Int) * (dig y k : Int) := Int.mul_nonneg (by omega) (by omega)
       have hm1 : (gd : Int) * (dig y k : Int) ≤ 18446744065119617025 := by have := prod_lt hq3 hdy; rw [← Int.natCast_mul]; omega
       obtain ⟨l, hl⟩ := Int.eq_ofNat_of_zero_le (a := ((gd : Int) * (dig y k : Int) + (cr : Int)) % 4294967296) (by omega)
       obtain ⟨c', hc'⟩ := Int.eq_ofNat_of_zero_le (a := ((gd : Int) * (dig y k : Int) + (cr : Int)) / 4294967296) (by omega)
       have hll : l < 4294967296 := by omega
       have hcl : c' < 4294967296 := by omega
       have htc : gd * dig y k + cr = l + c' * 4294967296 := by
        have : ((gd * dig y k + cr : Nat) : Int) = (gd : Int) * (dig y k : Int) + (cr : Int) := by rw [Int.natCast_add, Int.natCast_mul]
        omega
       obtain ⟨d, hd⟩ := Int.eq_ofNat_of_zero_le (a := ((f1 (j + k) : Int) - l - bw) % 4294967296) (by omega)
       obtain ⟨bb, hbb⟩ := Int.eq_ofNat_of_zero_le (borrow_le (f1 (j + k)) l bw).1
       have hsd := sub_digit _ _ _ _ _ hfl hll hbw hd hbb
       have hbb1 : bb ≤ 1 := hsd.2.1
       have hdl : d < 4294967296 := hsd.2.2
       have HST := Lib.hid (mulsub_step _ _ _ _ _ _ _ _ _ _ _ _ _ _ HV.out htc hsd.1)
       have HL := Lib.hid hl
       have HC := Lib.hid hc'
       have HD := Lib.hid hd
       have HBB := Lib.hid hbb
       clear hl hc' hd hbb htc hsd j2
       go_wp2_with (go_at_call 190; refine (sub32_any _ _ _ _ (by omega) (by omega) (by omega) (by omega) (by omega) (by omega)).mono ?_; rintro e w' ⟨rfl, rfl⟩)
       go_roundw
       case rel =>
        refine ⟨k + 1, c', bb, upd f1 (j + k) d, by omega, by go_num, by rw [← HC.out], hcl, by rw [HL.out, HBB.out], hbb1, row_upd hrow _ _ (by rw [HL.out, HD.out]), ?_, upd_lt HF1.out hdl, ?_, grown_set hgr _ _⟩
        ·intro t ht
         unfold upd
         rw [if_neg (by omega)]
         exact HS.out t (by omega)
        ·have h := HST.out
         have e : win f j k = f1 (j + k) := (HS.out (j + k) (by omega)).symm
         simp only [valF, win_upd, valF_upd _ k _ k (Nat.le_refl _), upd_self, Nat.pow_succ]
         rw [e]
         exact h
       case measure => simp [intOf]; omega
      ·obtain rfl : n = k := by omega
       have hcell := hrow.cell (i := j + n) (by omega)
       have hfz := hrow.frozen (j + n)
       have hfl := HF1.out (j + n) (by omega)
       obtain ⟨d, hd⟩ := Int.eq_ofNat_of_zero_le (a := ((f1 (j + n) : Int) - cr - bw) % 4294967296) (by omega)
       obtain ⟨bf, hbf⟩ := Int.eq_ofNat_of_zero_le (borrow_le (f1 (j + n)) cr bw).1
       have hsd := sub_digit _ _ _ _ _ hfl hcr hbw hd hbf
       have hbf1 : bf ≤ 1 := hsd.2.1
       have hdl : d < 4294967296 := hsd.2.2
       have hW := last_step _ _ _ _ _ _ _ _ _ _ _ HV.out hsd.1
       have hy0 := valF_nl y
       rw [HY.out] at hy0
       have hun : win f j n = f1 (j + n) := (HS.out (j + n) (by omega)).symm
       have hu0 : valF (win f j) n + f1 (j + n) * 4294967296 ^ n = U := by rw [← HUE.out, valF, hun]
       rw [hy0, hu0] at hW
       have HSD := Lib.hid hsd.1
       have HW := Lib.hid hW
       have HD := Lib.hid hd
       have HYN := Lib.hid hy0
       clear hsd hW hy0 hun hu0 hd
       by_cases hb0 : bf = 0
       ·have hbz : borrow (f1 (j + n)) cr bw = 0 := by rw [hbf, hb0]; rfl
        have HB0 := Lib.hid hb0
        clear hb0 hbf
        go_wp2_with (go_at_call 190; refine (sub32_any _ _ _ _ (by omega) (by omega) (by omega) (by omega) (by omega) (by omega)).mono ?_; rintro e w' ⟨rfl, rfl⟩)
        go_ret
        have hend := end_plain HW.out HB0.out hq1 hfa.y0
        refine ⟨upd f1 (j + n) d, by rw [← hend.1]; rfl, row_upd hrow _ _ (by rw [HD.out]), ?_, upd_lt HF1.out hdl, ?_, grown_set hgr _ _⟩
        ·intro t ht
         unfold upd
         rw [if_neg (by omega)]
         exact HS.out t (by omega)
        ·rw [win_upd, valF, valF_upd _ n _ n (Nat.le_refl _), upd_self]
         exact hend.2
       ·have hb1 : bf = 1 := by omega
        have hbz : borrow (f1 (j + n)) cr bw = 1 := by rw [hbf, hb1]; rfl
        have HB1 := Lib.hid hb1
        have hgd1 : 1 ≤ gd := by
         have := HW.out
         rw [hb1, Nat.one_mul] at this
         rcases Nat.eq_zero_or_pos gd with q | q
         ·exfalso
          rw [q, Nat.zero_mul] at this
          have h1 := valF_lt (win f1 j) n (fun i hi => HF1.out _ (by omega))
          have h2 : d * 4294967296 ^ n + 4294967296 ^ n ≤ 4294967296 * 4294967296 ^ n := by rw [← Nat.succ_mul]; exact Nat.mul_le_mul_right _ hdl
          rw [Nat.mul_comm 4294967296] at h2
          omega
         ·exact q
        clear hb1 hbf hb0
        go_wp2_with (go_at_call 190; refine (sub32_any _ _ _ _ (by omega) (by omega) (by omega) (by omega) (by omega) (by omega)).mono ?_; rintro e w' ⟨rfl, hww⟩; have hww2 := hww.symm; clear hww; subst hww2)
        have hrow2 : ∀ u, u = Value.int IntKind.u32 (d : Nat) → (wr.setCell ⟨g, j + n, none⟩ u).rowIs g 166 m (fun t => .int .u32 (upd f1 (j + n) d t : Nat)) := fun u hu => row_upd hrow _ _ hu
        have hgr2 : ∀ u, w.grownBy (wr.setCell ⟨g, j + n, none⟩ u) (some g) := fun u => grown_set hgr _ _
        have HR2 := Lib.hid hrow2
        have HG2 := Lib.hid hgr2
        clear hrow2 hgr2 hrow hgr hbz
        obtain ⟨F2, hF2⟩ : ∃ F2, F2 = upd f1 (j + n) d := ⟨_, rfl⟩
        have hF2l : ∀ t, t < m → F2 t < 4294967296 := by rw [hF2]; exact upd_lt HF1.out hdl
        have hF2s : ∀ t, t < j ∨ j + n < t → F2 t = f t := by
         intro t ht
         rw [hF2]
         unfold upd
         rw [if_neg (by omega)]
         exact HS.out t (by omega)
        have hF2w : valF (win F2 j) n = valF (win f1 j) n := by rw [hF2, win_upd, valF_upd _ n _ n (Nat.le_refl _)]
        have hF2n : F2 (j + n) = d := by rw [hF2, upd_self]
        rw [← hF2] at HR2
        have H1 := Lib.hid hF2l
        have H2 := Lib.hid hF2s
        have H3 := Lib.hid hF2w
        have H4 := Lib.hid hF2n
        clear hF2l hF2s hF2w hF2n hF2 hcell hfz
        go_loopw [13, 133] (fun ov iv wr => ∃ (k o3 : Nat) (f3 : Nat → Nat), k ≤ n ∧ iv = .int .i64 k ∧ ov = .int .u32 o3 ∧ o3 ≤ 1 ∧ wr.rowIs g 166 m (fun t => .int .u32 (f3 t : Nat)) ∧
         (∀ t, t < j ∨ j + k ≤ t → f3 t = F2 t) ∧ (∀ t, t < m → f3 t < 4294967296) ∧ valF (win f3 j) k + o3 * 4294967296 ^ k = valF (win F2 j) k + valF (dig y) k ∧ w.grownBy wr (some g)) (fun _ iv _ => n - (intOf iv).toNat)
        case atStart => exact ⟨0, 0, F2, Nat.zero_le _, rfl, rfl, by omega, HR2.out _ (by rw [HD.out]), fun _ _ => rfl, H1.out, by simp [valF], HG2.out _⟩
        case round =>
         obtain ⟨k, o3, f3, hk, rfl, rfl, ho3, hrow, hsame3, hf3, hv3, hgr⟩ := hrel
         have HV3 := Lib.hid hv3
         have HS3 := Lib.hid hsame3
         have HF3 := Lib.hid hf3
         clear hv3 hsame3 hf3
         have j2 := HI.out.grown hgr hne
         by_cases hlt : k < n
         ·have hcell := hrow.cell (i := j + k) (by omega)
          have hfz := hrow.frozen (j + k)
          have hvc := j2.cell k hlt
          simp only [lc] at hvc
          have hix := fun W => ix32 j2 (k : Int) (by omega) (by omega) n c2 W
          simp only [Int.toNat_natCast] at hix
          have hdy := dig_lt y k
          have hfl3 := HF3.out (j + k) (by omega)
          have HST := Lib.hid (add_step _ _ _ o3 (f3 (j + k)) (dig y k) _ HV3.out)
          clear j2
          go_wp2
          go_region_with (go_at_call 191; refine (add32_any _ _ _ _ (by omega) (by omega) (by omega) (by omega) (by omega) (by omega)).mono ?_; rintro e w' ⟨rfl, rfl⟩)
          all_goals go_wp2
          all_goals
           go_roundw
           case rel =>
            refine ⟨k + 1, (f3 (j + k) + dig y k + o3) / 4294967296, upd f3 (j + k) ((f3 (j + k) + dig y k + o3) % 4294967296), by omega, by go_num, by congr 1, by omega, (row_upd hrow _ _ (by congr 1)).drew, ?_, upd_lt HF3.out (Nat.mod_lt _ (by omega)), ?_, grown_drew (grown_set hgr _ _)⟩
            ·intro t ht
             unfold upd
             rw [if_neg (by omega)]
             exact HS3.out t (by omega)
            ·have h := HST.out
             have e : win F2 j k = f3 (j + k) := (HS3.out (j + k) (by omega)).symm
             simp only [valF, win_upd, valF_upd _ k _ k (Nat.le_refl _), upd_self, Nat.pow_succ]
             rw [e]
             exact h
           case measure => simp [intOf]; omega
         ·obtain rfl : n = k := by omega
          have hcell := hrow.cell (i := j + n) (by omega)
          have hfz := hrow.frozen (j + n)
          have e1 : f3 (j + n) = d := by rw [HS3.out (j + n) (by omega), H4.out]
          rw [e1] at hcell
          have hend : gd = U / y + 1 ∧ valF (win f3 j) n = U % y ∧ d + o3 = 4294967296 := by
           have h1 := HW.out
           rw [HB1.out, Nat.one_mul] at h1
           have h2 := HV3.out
           rw [H3.out, HYN.out] at h2
           refine end_back h1 h2 (valF_lt _ _ (fun i hi => HF3.out _ (by omega))) (valF_lt _ _ (fun i hi => HF1.out _ (by omega))) hdl ho3 hfa.y0 ?_ hq2
           rw [← HY.out]; exact lt_pow_nl y
          have HE := Lib.hid hend
          have hsum : 4294967296 ≤ d + o3 := by omega
          have hsum2 : d + o3 ≤ 4294967296 := by omega
          clear hend e1
          go_wp2
          go_ret
          have hend := HE.out
          refine ⟨upd f3 (j + n) 0, ?_, row_upd hrow _ _ ?_, ?_, upd_lt HF3.out (by omega), ?_, grown_set hgr _ _⟩
          ·show Ending.returned (.int .u32 ((gd : Int) - 1)) = _
           rw [hend.1]
           congr 2
           omega
          ·congr 1; omega
          ·intro t ht
           unfold upd
           rw [if_neg (by omega), HS3.out t (by omega)]
           exact H2.out t (by omega)
          ·rw [win_upd, valF, valF_upd _ n _ n (Nat.le_refl _), upd_self, hend.2.1]
           omega
    ·go_wp2
     go_quiet (fail)
     go_wp2
     go_roundw
     case rel => exact ⟨gs - 1, rs + v1, by congr 1; omega, by congr 1, HDEC.out, by omega, by omega, by first | exact Drawn.of _ _ | exact (Drawn.of _ _).step _ | exact ((Drawn.of _ _).step _).step _⟩
     case measure => simp [intOf]; omega
   ·have hlow : gs ≤ U / y + 1 := hfa.low HT1.out (by omega) (by omega)
    have hci : ¬ (rs : Int) * 4294967296 + (u2 : Int) < (gs : Int) * (v2 : Int) := by rw [hmc]; omega
    clear hc hmc
    go_wp2
    go_quiet (fail)
    go_wp2
    obtain ⟨gd, hgd⟩ : ∃ gd : Nat, gd = gs := ⟨_, rfl⟩
    subst hgd
    have hq3 : gd < 4294967296 := by omega
    have hq1 := hql
    have hq2 := hlow
    clear hci hor hm0 hm1 hg
    go_loopw [9, 10, 84] (fun cv bv iv wr => ∃ (k cr bw : Nat) (f1 : Nat → Nat), k ≤ n ∧ iv = .int .i64 k ∧ cv = .int .u64 cr ∧ cr < 4294967296 ∧ bv = .int .u32 bw ∧ bw ≤ 1 ∧ wr.rowIs g 166 m (fun t => .int .u32 (f1 t : Nat)) ∧
      (∀ t, t < j ∨ j + k ≤ t → f1 t = f t) ∧ (∀ t, t < m → f1 t < 4294967296) ∧ valF (win f1 j) k + gd * valF (dig y) k = valF (win f j) k + (cr + bw) * 4294967296 ^ k ∧ w.grownBy wr (some g)) (fun _ _ iv _ => n - (intOf iv).toNat)
    case atStart => exact ⟨0, 0, 0, f, Nat.zero_le _, rfl, rfl, by omega, rfl, by omega, row_drawn HROW.out (by first | exact Drawn.of _ _ | exact (Drawn.of _ _).step _ | exact ((Drawn.of _ _).step _).step _), fun _ _ => rfl, HF.out, by simp [valF], grown_of_drawn (by first | exact Drawn.of _ _ | exact (Drawn.of _ _).step _ | exact ((Drawn.of _ _).step _).step _)⟩
    case round =>
     obtain ⟨k, cr, bw, f1, hk, rfl, rfl, hcr, rfl, hbw, hrow, hsame, hf1, hv, hgr⟩ := hrel
     have HV := Lib.hid hv
     have HS := Lib.hid hsame
     have HF1 := Lib.hid hf1
     clear hv hsame hf1 hx1 hx2 hc0 hc1 hc2 hd1 hd2
     have j2 := HI.out.grown hgr hne
     by_cases hlt : k < n
     ·have hcell := hrow.cell (i := j + k) (by omega)
      have hfz := hrow.frozen (j + k)
      have hvc := j2.cell k hlt
      simp only [lc] at hvc
      have hix := fun W => ix32 j2 (k : Int) (by omega) (by omega) n c2 W
      simp only [Int.toNat_natCast] at hix
      have hdy := dig_lt y k
      have hfl := HF1.out (j + k) (by omega)
      have hm0 : (0 : Int) ≤ (gd : Int) * (dig y k : Int) := Int.mul_nonneg (by omega) (by omega)
      have hm1 : (gd : Int) * (dig y k : Int) ≤ 18446744065119617025 := by have := prod_lt hq3 hdy; rw [← Int.natCast_mul]; omega
      obtain ⟨l, hl⟩ := Int.eq_ofNat_of_zero_le (a := ((gd : Int) * (dig y k : Int) + (cr : Int)) % 4294967296) (by omega)
      obtain ⟨c', hc'⟩ := Int.eq_ofNat_of_zero_le (a := ((gd : Int) * (dig y k : Int) + (cr : Int)) / 4294967296) (by omega)
      have hll : l < 4294967296 := by omega
      have hcl : c' < 4294967296 := by omega
      have htc : gd * dig y k + cr = l + c' * 4294967296 := by
       have : ((gd * dig y k + cr : Nat) : Int) = (gd : Int) * (dig y k : Int) + (cr : Int) := by rw [Int.natCast_add, Int.natCast_mul]
       omega
      obtain ⟨d, hd⟩ := Int.eq_ofNat_of_zero_le (a := ((f1 (j + k) : Int) - l - bw) % 4294967296) (by omega)
      obtain ⟨bb, hbb⟩ := Int.eq_ofNat_of_zero_le (borrow_le (f1 (j + k)) l bw).1
      have hsd := sub_digit _ _ _ _ _ hfl hll hbw hd hbb
      have hbb1 : bb ≤ 1 := hsd.2.1
      have hdl : d < 4294967296 := hsd.2.2
      have HST := Lib.hid (mulsub_step _ _ _ _ _ _ _ _ _ _ _ _ _ _ HV.out htc hsd.1)
      have HL := Lib.hid hl
      have HC := Lib.hid hc'
      have HD := Lib.hid hd
      have HBB := Lib.hid hbb
      clear hl hc' hd hbb htc hsd j2
      go_wp2_with (go_at_call 190; refine (sub32_any _ _ _ _ (by omega) (by omega) (by omega) (by omega) (by omega) (by omega)).mono ?_; rintro e w' ⟨rfl, rfl⟩)
      go_roundw
      case rel =>
       refine ⟨k + 1, c', bb, upd f1 (j + k) d, by omega, by go_num, by rw [← HC.out], hcl, by rw [HL.out, HBB.out], hbb1, row_upd hrow _ _ (by rw [HL.out, HD.out]), ?_, upd_lt HF1.out hdl, ?_, grown_set hgr _ _⟩
       ·intro t ht
        unfold upd
        rw [if_neg (by omega)]
        exact HS.out t (by omega)
       ·have h := HST.out
        have e : win f j k = f1 (j + k) := (HS.out (j + k) (by omega)).symm
        simp only [valF, win_upd, valF_upd _ k _ k (Nat.le_refl _), upd_self, Nat.pow_succ]
        rw [e]
        exact h
      case measure => simp [intOf]; omega
     ·obtain rfl : n = k := by omega
      have hcell := hrow.cell (i := j + n) (by omega)
      have hfz := hrow.frozen (j + n)
      have hfl := HF1.out (j + n) (by omega)
      obtain ⟨d, hd⟩ := Int.eq_ofNat_of_zero_le (a := ((f1 (j + n) : Int) - cr - bw) % 4294967296) (by omega)
      obtain ⟨bf, hbf⟩ := Int.eq_ofNat_of_zero_le (borrow_le (f1 (j + n)) cr bw).1
      have hsd := sub_digit _ _ _ _ _ hfl hcr hbw hd hbf
      have hbf1 : bf ≤ 1 := hsd.2.1
      have hdl : d < 4294967296 := hsd.2.2
      have hW := last_step _ _ _ _ _ _ _ _ _ _ _ HV.out hsd.1
      have hy0 := valF_nl y
      rw [HY.out] at hy0
      have hun : win f j n = f1 (j + n) := (HS.out (j + n) (by omega)).symm
      have hu0 : valF (win f j) n + f1 (j + n) * 4294967296 ^ n = U := by rw [← HUE.out, valF, hun]
      rw [hy0, hu0] at hW
      have HSD := Lib.hid hsd.1
      have HW := Lib.hid hW
      have HD := Lib.hid hd
      have HYN := Lib.hid hy0
      clear hsd hW hy0 hun hu0 hd
      by_cases hb0 : bf = 0
      ·have hbz : borrow (f1 (j + n)) cr bw = 0 := by rw [hbf, hb0]; rfl
       have HB0 := Lib.hid hb0
       clear hb0 hbf
       go_wp2_with (go_at_call 190; refine (sub32_any _ _ _ _ (by omega) (by omega) (by omega) (by omega) (by omega) (by omega)).mono ?_; rintro e w' ⟨rfl, rfl⟩)
       go_ret
       have hend := end_plain HW.out HB0.out hq1 hfa.y0
       refine ⟨upd f1 (j + n) d, by rw [← hend.1]; rfl, row_upd hrow _ _ (by rw [HD.out]), ?_, upd_lt HF1.out hdl, ?_, grown_set hgr _ _⟩
       ·intro t ht
        unfold upd
        rw [if_neg (by omega)]
        exact HS.out t (by omega)
       ·rw [win_upd, valF, valF_upd _ n _ n (Nat.le_refl _), upd_self]
        exact hend.2
      ·have hb1 : bf = 1 := by omega
       have hbz : borrow (f1 (j + n)) cr bw = 1 := by rw [hbf, hb1]; rfl
       have HB1 := Lib.hid hb1
       have hgd1 : 1 ≤ gd := by
        have := HW.out
        rw [hb1, Nat.one_mul] at this
        rcases Nat.eq_zero_or_pos gd with q | q
        ·exfalso
         rw [q, Nat.zero_mul] at this
         have h1 := valF_lt (win f1 j) n (fun i hi => HF1.out _ (by omega))
         have h2 : d * 4294967296 ^ n + 4294967296 ^ n ≤ 4294967296 * 4294967296 ^ n := by rw [← Nat.succ_mul]; exact Nat.mul_le_mul_right _ hdl
         rw [Nat.mul_comm 4294967296] at h2
         omega
        ·exact q
       clear hb1 hbf hb0
       go_wp2_with (go_at_call 190; refine (sub32_any _ _ _ _ (by omega) (by omega) (by omega) (by omega) (by omega) (by omega)).mono ?_; rintro e w' ⟨rfl, hww⟩; have hww2 := hww.symm; clear hww; subst hww2)
       have hrow2 : ∀ u, u = Value.int IntKind.u32 (d : Nat) → (wr.setCell ⟨g, j + n, none⟩ u).rowIs g 166 m (fun t => .int .u32 (upd f1 (j + n) d t : Nat)) := fun u hu => row_upd hrow _ _ hu
       have hgr2 : ∀ u, w.grownBy (wr.setCell ⟨g, j + n, none⟩ u) (some g) := fun u => grown_set hgr _ _
       have HR2 := Lib.hid hrow2
       have HG2 := Lib.hid hgr2
       clear hrow2 hgr2 hrow hgr hbz
       obtain ⟨F2, hF2⟩ : ∃ F2, F2 = upd f1 (j + n) d := ⟨_, rfl⟩
       have hF2l : ∀ t, t < m → F2 t < 4294967296 := by rw [hF2]; exact upd_lt HF1.out hdl
       have hF2s : ∀ t, t < j ∨ j + n < t → F2 t = f t := by
        intro t ht
        rw [hF2]
        unfold upd
        rw [if_neg (by omega)]
        exact HS.out t (by omega)
       have hF2w : valF (win F2 j) n = valF (win f1 j) n := by rw [hF2, win_upd, valF_upd _ n _ n (Nat.le_refl _)]
       have hF2n : F2 (j + n) = d := by rw [hF2, upd_self]
       rw [← hF2] at HR2
       have H1 := Lib.hid hF2l
       have H2 := Lib.hid hF2s
       have H3 := Lib.hid hF2w
       have H4 := Lib.hid hF2n
       clear hF2l hF2s hF2w hF2n hF2 hcell hfz
       go_loopw [13, 133] (fun ov iv wr => ∃ (k o3 : Nat) (f3 : Nat → Nat), k ≤ n ∧ iv = .int .i64 k ∧ ov = .int .u32 o3 ∧ o3 ≤ 1 ∧ wr.rowIs g 166 m (fun t => .int .u32 (f3 t : Nat)) ∧
        (∀ t, t < j ∨ j + k ≤ t → f3 t = F2 t) ∧ (∀ t, t < m → f3 t < 4294967296) ∧ valF (win f3 j) k + o3 * 4294967296 ^ k = valF (win F2 j) k + valF (dig y) k ∧ w.grownBy wr (some g)) (fun _ iv _ => n - (intOf iv).toNat)
       case atStart => exact ⟨0, 0, F2, Nat.zero_le _, rfl, rfl, by omega, HR2.out _ (by rw [HD.out]), fun _ _ => rfl, H1.out, by simp [valF], HG2.out _⟩
       case round =>
        obtain ⟨k, o3, f3, hk, rfl, rfl, ho3, hrow, hsame3, hf3, hv3, hgr⟩ := hrel
        have HV3 := Lib.hid hv3
        have HS3 := Lib.hid hsame3
        have HF3 := Lib.hid hf3
        clear hv3 hsame3 hf3
        have j2 := HI.out.grown hgr hne
        by_cases hlt : k < n
        ·have hcell := hrow.cell (i := j + k) (by omega)
         have hfz := hrow.frozen (j + k)
         have hvc := j2.cell k hlt
         simp only [lc] at hvc
         have hix := fun W => ix32 j2 (k : Int) (by omega) (by omega) n c2 W
         simp only [Int.toNat_natCast] at hix
         have hdy := dig_lt y k
         have hfl3 := HF3.out (j + k) (by omega)
         have HST := Lib.hid (add_step _ _ _ o3 (f3 (j + k)) (dig y k) _ HV3.out)
         clear j2
         go_wp2
         go_region_with (go_at_call 191; refine (add32_any _ _ _ _ (by omega) (by omega) (by omega) (by omega) (by omega) (by omega)).mono ?_; rintro e w' ⟨rfl, rfl⟩)
         all_goals go_wp2
         all_goals
          go_roundw
          case rel =>
           refine ⟨k + 1, (f3 (j + k) + dig y k + o3) / 4294967296, upd f3 (j + k) ((f3 (j + k) + dig y k + o3) % 4294967296), by omega, by go_num, by congr 1, by omega, (row_upd hrow _ _ (by congr 1)).drew, ?_, upd_lt HF3.out (Nat.mod_lt _ (by omega)), ?_, grown_drew (grown_set hgr _ _)⟩
           ·intro t ht
            unfold upd
            rw [if_neg (by omega)]
            exact HS3.out t (by omega)
           ·have h := HST.out
            have e : win F2 j k = f3 (j + k) := (HS3.out (j + k) (by omega)).symm
            simp only [valF, win_upd, valF_upd _ k _ k (Nat.le_refl _), upd_self, Nat.pow_succ]
            rw [e]
            exact h
          case measure => simp [intOf]; omega
        ·obtain rfl : n = k := by omega
         have hcell := hrow.cell (i := j + n) (by omega)
         have hfz := hrow.frozen (j + n)
         have e1 : f3 (j + n) = d := by rw [HS3.out (j + n) (by omega), H4.out]
         rw [e1] at hcell
         have hend : gd = U / y + 1 ∧ valF (win f3 j) n = U % y ∧ d + o3 = 4294967296 := by
          have h1 := HW.out
          rw [HB1.out, Nat.one_mul] at h1
          have h2 := HV3.out
          rw [H3.out, HYN.out] at h2
          refine end_back h1 h2 (valF_lt _ _ (fun i hi => HF3.out _ (by omega))) (valF_lt _ _ (fun i hi => HF1.out _ (by omega))) hdl ho3 hfa.y0 ?_ hq2
          rw [← HY.out]; exact lt_pow_nl y
         have HE := Lib.hid hend
         have hsum : 4294967296 ≤ d + o3 := by omega
         have hsum2 : d + o3 ≤ 4294967296 := by omega
         clear hend e1
         go_wp2
         go_ret
         have hend := HE.out
         refine ⟨upd f3 (j + n) 0, ?_, row_upd hrow _ _ ?_, ?_, upd_lt HF3.out (by omega), ?_, grown_set hgr _ _⟩
         ·show Ending.returned (.int .u32 ((gd : Int) - 1)) = _
          rw [hend.1]
          congr 2
          omega
         ·congr 1; omega
         ·intro t ht
          unfold upd
          rw [if_neg (by omega), HS3.out t (by omega)]
          exact H2.out t (by omega)
         ·rw [win_upd, valF, valF_upd _ n _ n (Nat.le_refl _), upd_self, hend.2.1]
          omega
end Go.Proofs.YtolkchkedieppaaGreat
