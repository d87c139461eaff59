/- part of package num: the quotient and the remainder of two sizes. -/
import Derived.Test.YtolkchkedieppaaGreatZNum8
import Derived.Test.YtolkchkedieppaaGreatZShelf
import Derived.Test.YtolkchkedieppaaGreatZNum7
import Derived.Lib.ItoaNum
import Derived.Test.YtolkchkedieppaaGreatZGen
import Derived.Laws.AppendOwnNone
set_option linter.unusedVariables false
set_option linter.unusedSimpArgs false
namespace Go.Proofs.YtolkchkedieppaaGreat
open Go.RowKit
theorem digit_any (g m j n cc : Nat) (f : Nat → Nat) (a2 : Option Addr) (b2 o2 c2 y : Nat) (w : World) (i2 : IsSl w a2 b2 o2 c2 n (lc y)) (hny : nl y = n) (hn2 : 2 ≤ n) (hne : b2 ≠ g)
    (hrow : w.rowIs g 166 m (fun t => .int .u32 (f t : Nat))) (hf : ∀ t, t < m → f t < 4294967296) (hj : j + n + 1 ≤ m) (hcc : n + 1 ≤ cc) (bn : n ≤ 1099511627776)
    (htop : 2147483648 ≤ dig y (n - 1)) (hU : valF (win f j) (n + 1) < y * 4294967296) :
    Calls Tryz.prog 146 #[.slice (some ⟨g, j, none⟩) (n + 1) cc, .slice a2 n c2] w fun e w' => ∃ f' : Nat → Nat,
      e = .returned (.int .u32 (valF (win f j) (n + 1) / y : Nat)) ∧ w'.rowIs g 166 m (fun t => .int .u32 (f' t : Nat)) ∧ (∀ t, t < j ∨ j + n < t → f' t = f t) ∧
      (∀ t, t < m → f' t < 4294967296) ∧ valF (win f' j) (n + 1) = valF (win f j) (n + 1) % y ∧ w.grownBy w' (some g) := by
  obtain ⟨k, hk⟩ : ∃ k, n = k + 2 := ⟨n - 2, by omega⟩
  have hkf : ((win f j (k + 2) * 4294967296 + win f j (k + 1)) * 4294967296 + win f j k) * 4294967296 ^ k ≤ valF (win f j) (k + 3) ∧ _ := knuth_facts (win f j) k y (fun i hi => hf _ (by omega)) (by omega) (by rw [hk] at hU; exact hU)
  have hy0 : 0 < y := by
    rcases Nat.eq_zero_or_pos y with q | q
    · rw [q] at hny; simp [nl] at hny; omega
    · exact q
  have hd1 := i2.cell (n - 1) (by omega)
  have hd2 := i2.cell (n - 2) (by omega)
  simp only [lc] at hd1 hd2
  have e1 : n - 1 = k + 1 := by omega
  have e2 : n - 2 = k := by omega
  refine digit_core g m j n cc f a2 b2 o2 c2 y w i2 hny hn2 hne hrow hf hj hcc bn _ (f (j + n) * 4294967296 + f (j + (n - 1))) (f (j + n)) (f (j + (n - 1))) (f (j + (n - 2))) (dig y (n - 1)) (dig y (n - 2)) rfl
    (or_join _ _ (hf _ (by omega)) (hf _ (by omega))) ?_ (hf _ (by omega)) (hf _ (by omega)) (hf _ (by omega)) (dig_lt _ _) (dig_lt _ _) htop ?_ (hrow.cell (by omega)) (hrow.cell (by omega)) (hrow.cell (by omega)) hd1 hd2
  · rw [e1, e2]
    have en : n = k + 2 := hk
    subst en
    exact ⟨hkf.1, hkf.2.1, hkf.2.2.1, hkf.2.2.2.1, hkf.2.2.2.2.1, hU, hy0⟩
  · rw [e1, e2]
    have en : n = k + 2 := hk
    subst en
    exact hkf.2.2.2.2.2
end Go.Proofs.YtolkchkedieppaaGreat

/- Plain arithmetic of the loop of part: normalizing, and one digit of the quotient after the other. -/
namespace Go.Proofs.YtolkchkedieppaaGreat
open Go
/-- the shift that normalizes a divisor -/
theorem shift_facts (y n : Nat) (hn : nl y = n) (h1 : 1 ≤ n) :
    ∃ s : Nat, s < 32 ∧ (32 - (Lib.bitLen (dig y (n - 1)) : Int)) = (s : Int) ∧ nl (y * 2 ^ s) = n ∧ 2147483648 ≤ dig (y * 2 ^ s) (n - 1) := by
  obtain ⟨k, rfl⟩ : ∃ k, n = k + 1 := ⟨n - 1, by omega⟩
  simp only [Nat.add_sub_cancel]
  have hlo : 4294967296 ^ k ≤ y := by rw [← lt_nl, hn]; omega
  have hhi : y < 4294967296 ^ (k + 1) := by have := lt_pow_nl y; rwa [hn] at this
  have hpk := Bpow_pos k
  have htop : dig y k = y / 4294967296 ^ k := by
    unfold dig
    refine Nat.mod_eq_of_lt ?_
    rw [Nat.div_lt_iff_lt_mul hpk, Nat.mul_comm, ← Nat.pow_succ]; exact hhi
  have ht0 : dig y k ≠ 0 := by
    rw [htop]
    have := Nat.div_pos hlo hpk
    omega
  have hb := Lib.bitLenAux_bounds 64 (dig y k) (Nat.lt_of_lt_of_le (dig_lt y k) (by omega)) ht0
  have hb32 := Lib.bitLen_le (dig y k) 32 (by omega) (dig_lt y k)
  have eL : Lib.bitLenAux 64 (dig y k) = Lib.bitLen (dig y k) := rfl
  rw [eL] at hb
  generalize Lib.bitLen (dig y k) = L at *
  obtain ⟨hL1, hL2, hL3⟩ := hb
  refine ⟨32 - L, by omega, by omega, ?_⟩
  have hy := Nat.div_add_mod y (4294967296 ^ k)
  rw [← htop] at hy
  have hm := Nat.mod_lt y hpk
  have hp : (4294967296 : Nat) = 2 ^ L * 2 ^ (32 - L) := by rw [← Nat.pow_add, show L + (32 - L) = 32 from by omega]
  have hp2 : (2147483648 : Nat) = 2 ^ (L - 1) * 2 ^ (32 - L) := by rw [← Nat.pow_add, show L - 1 + (32 - L) = 31 from by omega]
  have hup : y * 2 ^ (32 - L) < 4294967296 ^ (k + 1) := by
    have h2 : y < (dig y k + 1) * 4294967296 ^ k := by rw [Nat.add_mul, Nat.one_mul, Nat.mul_comm]; omega
    have h3 : (dig y k + 1) * 4294967296 ^ k ≤ 2 ^ L * 4294967296 ^ k := Nat.mul_le_mul_right _ hL3
    have h4 := Nat.mul_lt_mul_of_pos_right (Nat.lt_of_lt_of_le h2 h3) (Nat.two_pow_pos (32 - L))
    have h5 : 2 ^ L * 4294967296 ^ k * 2 ^ (32 - L) = (2 ^ L * 2 ^ (32 - L)) * 4294967296 ^ k := by ac_rfl
    rw [h5, ← hp] at h4
    rw [Nat.pow_succ, Nat.mul_comm (4294967296 ^ k)]; exact h4
  have hlow : 2147483648 * 4294967296 ^ k ≤ y * 2 ^ (32 - L) := by
    have h2 : dig y k * 4294967296 ^ k ≤ y := by rw [Nat.mul_comm]; omega
    have h3 := Nat.mul_le_mul_right (2 ^ (32 - L)) (Nat.le_trans (Nat.mul_le_mul_right _ hL2) h2)
    have h5 : 2 ^ (L - 1) * 4294967296 ^ k * 2 ^ (32 - L) = (2 ^ (L - 1) * 2 ^ (32 - L)) * 4294967296 ^ k := by ac_rfl
    rw [h5, ← hp2] at h3
    exact h3
  constructor
  · have a1 : nl (y * 2 ^ (32 - L)) ≤ k + 1 := (nl_le _ _).2 hup
    have a2 : k < nl (y * 2 ^ (32 - L)) := (lt_nl _ _).2 (Nat.le_trans (Nat.le_mul_of_pos_left _ (by omega)) hlow)
    omega
  · have : dig (y * 2 ^ (32 - L)) k = y * 2 ^ (32 - L) / 4294967296 ^ k := by
      unfold dig
      refine Nat.mod_eq_of_lt ?_
      rw [Nat.div_lt_iff_lt_mul hpk, Nat.mul_comm 4294967296, ← Nat.pow_succ]; exact hup
    rw [this, Nat.le_div_iff_mul_le hpk]
    exact hlow
/-- the digits from j on of a number below a bound -/
theorem win_lt (f : Nat → Nat) (j n X Y : Nat) (h : valF f (j + (n + 1)) = X % (Y * 4294967296 ^ (j + 1))) (hY : 0 < Y) : valF (fun i => f (j + i)) (n + 1) < Y * 4294967296 := by
  have hs := valF_split f j (n + 1)
  have hlt := Nat.mod_lt X (Nat.mul_pos hY (Bpow_pos (j + 1)))
  rw [← h, hs] at hlt
  have h2 : valF (fun i => f (j + i)) (n + 1) * 4294967296 ^ j < (Y * 4294967296) * 4294967296 ^ j := by
    have : Y * 4294967296 ^ (j + 1) = (Y * 4294967296) * 4294967296 ^ j := by rw [Nat.pow_succ]; ac_rfl
    omega
  exact Nat.lt_of_mul_lt_mul_right h2
theorem small_sum (v P r Y : Nat) (h1 : v < P) (h2 : r < Y) : v + r * P < Y * P := by
  have h3 : (r + 1) * P ≤ Y * P := Nat.mul_le_mul_right _ h2
  rw [Nat.add_mul, Nat.one_mul] at h3
  omega
/-- one digit of the quotient -/
theorem quo_step (f f' : Nat → Nat) (j n X Y : Nat) (hf : ∀ i, i < j → f i < 4294967296) (hf' : ∀ i, i ≤ n → f' (j + i) < 4294967296) (hY : 0 < Y) (hYn : Y ≤ 4294967296 ^ n)
    (h : valF f (j + (n + 1)) = X % (Y * 4294967296 ^ (j + 1))) (hsame : ∀ t, t < j → f' t = f t)
    (hw : valF (fun i => f' (j + i)) (n + 1) = valF (fun i => f (j + i)) (n + 1) % Y) :
    valF f' (j + n) = X % (Y * 4294967296 ^ j) ∧ valF (fun i => f (j + i)) (n + 1) / Y = dig (X / Y) j := by
  have hs := valF_split f j (n + 1)
  have hs' := valF_split f' j n
  have hl := valF_lt f j hf
  have hc : valF f' j = valF f j := valF_congr hsame
  generalize hU : valF (fun i => f (j + i)) (n + 1) = U at *
  have hmod := Nat.mod_lt U hY
  have hbj := Bpow_pos j
  have htop : valF (fun i => f' (j + i)) n = U % Y := by
    simp only [valF] at hw
    have : f' (j + n) = 0 := by
      rcases Nat.eq_zero_or_pos (f' (j + n)) with e | e
      · exact e
      · have := Nat.mul_le_mul_right (4294967296 ^ n) e
        omega
    rw [this] at hw
    omega
  rw [hs] at h
  constructor
  · rw [hs', hc, htop]
    have e1 : X % (Y * 4294967296 ^ j) = (X % (Y * 4294967296 ^ (j + 1))) % (Y * 4294967296 ^ j) := by
      rw [Nat.pow_succ, ← Nat.mul_assoc, Nat.mod_mul_right_mod]
    rw [e1, ← h]
    have hd := Nat.div_add_mod U Y
    have e2 : valF f j + U * 4294967296 ^ j = (valF f j + U % Y * 4294967296 ^ j) + Y * 4294967296 ^ j * (U / Y) := by
      have : U * 4294967296 ^ j = (Y * (U / Y) + U % Y) * 4294967296 ^ j := by rw [hd]
      rw [this, Nat.add_mul]
      have : Y * (U / Y) * 4294967296 ^ j = Y * 4294967296 ^ j * (U / Y) := by ac_rfl
      omega
    rw [e2, Nat.add_mul_mod_self_left]
    exact (Nat.mod_eq_of_lt (small_sum _ _ _ _ hl hmod)).symm
  · have e1 : dig (X / Y) j = (X % (Y * 4294967296 ^ (j + 1))) / (Y * 4294967296 ^ j) := by
      unfold dig
      rw [Nat.div_div_eq_div_mul, Nat.pow_succ, ← Nat.mul_assoc, Nat.mod_mul_right_div_self]
    rw [e1, ← h, Nat.mul_comm Y, ← Nat.div_div_eq_div_mul, Nat.add_mul_div_right _ _ hbj, Nat.div_eq_of_lt hl, Nat.zero_add]
theorem start_small (x y n m p : Nat) (hy : nl y = n) (hx : nl x = m) (h1 : 1 ≤ n) (hnm : n ≤ m) (hp : 0 < p) : x * p < y * p * 4294967296 ^ (m - n + 1) := by
  have h2 : 4294967296 ^ (n - 1) ≤ y := by rw [← lt_nl]; omega
  have h3 : x < 4294967296 ^ m := by have := lt_pow_nl x; rwa [hx] at this
  have h4 : 4294967296 ^ m ≤ y * 4294967296 ^ (m - n + 1) := by
    have : (4294967296 : Nat) ^ m = 4294967296 ^ (n - 1) * 4294967296 ^ (m - n + 1) := by rw [← Nat.pow_add]; congr 1; omega
    rw [this]; exact Nat.mul_le_mul_right _ h2
  have h5 : y * p * 4294967296 ^ (m - n + 1) = y * 4294967296 ^ (m - n + 1) * p := by ac_rfl
  rw [h5]
  exact Nat.mul_lt_mul_of_pos_right (Nat.lt_of_lt_of_le h3 h4) hp
end Go.Proofs.YtolkchkedieppaaGreat

/- part of package num: the quotient and the remainder of two sizes, for all sizes. -/
namespace Go.Proofs.YtolkchkedieppaaGreat
open Go.RowKit
/-- as many limbs of a number, as a list of cells -/
def lcs (x n : Nat) : List Value := (List.range n).map (lc x)
theorem lcs_length (x n : Nat) : (lcs x n).length = n := by simp [lcs]
theorem lcs_get (x n i : Nat) (h : i < n) : (lcs x n)[i]? = some (lc x i) := by simp [lcs, h]
theorem lcs_one (x n : Nat) : ∀ u ∈ lcs x n, u.oneCell' = true := by
  intro u hu
  simp only [lcs, List.mem_map] at hu
  obtain ⟨i, _, rfl⟩ := hu
  rfl
theorem lcs_cells {w : World} {a : Option Addr} {b o c n x : Nat} (h : IsSl w a b o c n (lc x)) {ad : Addr} (ha : a = some ad) : ∀ j u, (lcs x n)[j]? = some u → w.cell? (ad.add j) = some u := by
  intro j u hj
  have hjn : j < n := by
    have := (List.getElem?_eq_some_iff.1 hj).1
    rwa [lcs_length] at this
  have hat := h.at_ (by omega)
  rw [ha] at hat
  obtain rfl := Option.some.inj hat
  rw [lcs_get _ _ _ hjn] at hj
  obtain rfl := Option.some.inj hj
  have e : (⟨b, o, none⟩ : Addr).add j = ⟨b, o + j, none⟩ := by
    unfold Addr.add; split <;> simp_all
  rw [e]
  exact h.cell j hjn
theorem mag_nil (w : World) : Mag w (.slice none 0 0) 0 :=
  ⟨none, 0, 0, 0, rfl, ⟨Nat.le_refl _, fun h => by simp [nl] at h, fun h => by simp [nl] at h, fun i hi => by simp [nl] at hi, fun _ => rfl⟩⟩
set_option maxHeartbeats 2000000 in
theorem part_less (u v : Value) (x y : Nat) (w : World) (hu : Mag w u x) (hv : Mag w v y) (hlt : x < y) (bx : nl x ≤ 1099511627776) (b_y : nl y ≤ 1099511627776) :
    Calls Tryz.prog 119 #[u, v] w fun e w' => ∃ q r, e = .returned (.tuple #[q, r]) ∧ Mag w' q (x / y) ∧ Mag w' r (x % y) ∧ Below w.heap.size w w' := by
  have hcm : cmpN x y = -1 := by simp [cmpN, hlt]
  have HC := Lib.hid (fun (W : World) => compare_any u v x y W)
  have HU := Lib.hid hu
  have HV := Lib.hid hv
  have hdiv : x / y = 0 := Nat.div_eq_of_lt hlt
  have hmod : x % y = x := Nat.mod_eq_of_lt hlt
  rw [hdiv, hmod]
  clear hdiv hmod hlt
  obtain ⟨a1, b1, o1, c1, rfl, i1⟩ := hu
  have HI := Lib.hid i1
  obtain ⟨i0, hi, hz0, hz1, hz2⟩ := info_parts info32
  cases a1 with
  | none =>
    have hc0 : c1 = 0 := i1.nc rfl
    have hn0 : nl x = 0 := by have := i1.cap; omega
    subst hc0
    have HN := Lib.hid hn0
    have hz : x = 0 := (nl_eq_zero x).1 hn0
    subst hz
    go_enter Tryz.func119, Tryz.ntmps119
    go_wp2_with (go_at_call 142; refine (HC.out _ HU.out HV.out (by omega) (by omega)).mono ?_; rintro e w' ⟨rfl, nd, rfl⟩)
    go_ret2
    exact ⟨.slice none 0 0, .slice none 0 0, rfl, mag_nil _, mag_nil _, (Drawn.of _ _).below _⟩
  | some ad =>
    go_enter Tryz.func119, Tryz.ntmps119
    go_wp2_with (first | (go_at_call 142; refine (HC.out _ HU.out HV.out (by omega) (by omega)).mono ?_; rintro e w' ⟨rfl, nd, rfl⟩) | (at_builtin; refine wpList_append_own _ rfl _ _ 110 rfl w.heap.size 166 i0 (.int .u32 0) 1 4 Tryz.underlying110 hi hz0 hz1 hz2 rfl (by decide) _ _ _ rfl (World.ownsRow_nil _ _ _ _) ad (nl x) c1 (lcs x (nl x)) rfl (by rw [lcs_length]; omega) (lcs_cells (HI.out.drawn (Drawn.of _ _)) rfl) (lcs_one _ _) (by unfold maxLen; omega) (by omega) (by simp) ?_; intro v' w1 hown hgrow _))
    go_ret2
    rw [Nat.zero_add, List.nil_append] at hown
    exact ⟨.slice none 0 0, v', rfl, mag_nil _, Sl.of_own hown (fun i hi => lcs_get _ _ _ hi), ((Drawn.of w nd).below _).grown hgrow (by simp) (fun k h => by cases h)⟩
theorem Mag.drawn {w w' : World} {v : Value} {x : Nat} (h : Mag w v x) (hd : Drawn w w') : Mag w' v x := by
  obtain ⟨a, b, o, c, rfl, hs⟩ := h
  exact ⟨a, b, o, c, rfl, hs.drawn hd⟩
/-- one limb in a block of its own -/
theorem isSl_one (r : Nat) {w : World} {b : Nat} (hc : w.cell? ⟨b, 0, none⟩ = some (.int .u32 (r : Nat))) (hb : b < w.heap.size) :
    IsSl w (some ⟨b, 0, none⟩) b 0 1 1 (fun i => .int .u32 ((fun _ => r) i : Nat)) :=
  ⟨Nat.le_refl _, fun _ => rfl, fun _ => hb, fun i hi => by obtain rfl : i = 0 := by omega
                                                            exact hc, fun e => by cases e⟩
theorem trim_one (r : Nat) (hr : r < 4294967296) {w : World} {b : Nat} (hc : w.cell? ⟨b, 0, none⟩ = some (.int .u32 (r : Nat))) (hb : b < w.heap.size) :
    Mag w (.slice (some ⟨b, 0, none⟩) (trimN (fun _ => r) 1) 1) r := by
  have h2 := trim_mag (f := fun _ => r) (fun i _ => hr) (isSl_one r hc hb)
  simpa [valF] using h2
set_option maxHeartbeats 2000000 in
theorem part_one (u v : Value) (x y : Nat) (w : World) (hu : Mag w u x) (hv : Mag w v y) (hle : y ≤ x) (hny : nl y = 1) (bx : nl x ≤ 1099511627776) :
    Calls Tryz.prog 119 #[u, v] w fun e w' => ∃ q r, e = .returned (.tuple #[q, r]) ∧ Mag w' q (x / y) ∧ Mag w' r (x % y) ∧ Below w.heap.size w w' := by
  have hcm : 0 ≤ cmpN x y := by unfold cmpN; rw [if_neg (by omega)]; split <;> omega
  have hyp : 0 < y := by
    rcases Nat.eq_zero_or_pos y with q | q
    · rw [q] at hny; simp [nl] at hny
    · exact q
  have hyl : y < 4294967296 := by have := lt_pow_nl y; rw [hny] at this; simpa using this
  have HC := Lib.hid (fun (W : World) => compare_any u v x y W)
  have HBW := Lib.hid (fun (W : World) => byWord_any u x y W)
  have HU := Lib.hid hu
  have HV := Lib.hid hv
  obtain ⟨a1, b1, o1, c1, rfl, i1⟩ := hu
  obtain ⟨a2, b2, o2, c2, rfl, i2⟩ := hv
  have hc := i2.cell 0 (by omega)
  have hd0 : dig y 0 = y := by unfold dig; simp; exact hyl
  simp only [lc, hd0, Nat.add_zero] at hc
  have hx0 := fun W => ix32 i2 0 (by omega) (by omega) (nl y) c2 W
  simp only [Int.toNat_zero] at hx0
  have hl1 : (((nl y : Nat) : Int) == 1) = true := by rw [hny]; rfl
  have hrm : (x : Nat) % y < 4294967296 := Nat.lt_trans (Nat.mod_lt _ hyp) hyl
  have HNY := Lib.hid hny
  clear hd0 hny hle
  go_enter Tryz.func119, Tryz.ntmps119
  go_wp2_with (first | (go_at_call 142; refine (HC.out _ HU.out HV.out (by omega) (by have := HNY.out; omega)).mono ?_; rintro e w' ⟨rfl, nd, rfl⟩) | (go_at_call 143; refine (HBW.out _ (HU.out.drawn (Drawn.of _ _)) hyp hyl bx).mono ?_; rintro e w1 ⟨q, rfl, hq, hb⟩))
  refine (trim_any (some ⟨w1.heap.size, 0, none⟩) w1.heap.size 0 1 1 (fun _ => x % y) _ (by omega) (isSl_one (x % y) (by simp) (by simp))).mono ?_
  rintro e w' ⟨rfl, hww⟩
  have hww2 := hww.symm
  clear hww
  subst hww2
  go_wp2
  go_ret2
  refine ⟨q, _, rfl, hq.alloc _, ?_, (((Drawn.of w nd).below _).trans (hb.mono (Nat.le_refl _))).alloc (by have := hb.size; simpa using this) _⟩
  exact trim_one (x % y) hrm (by simp) (by simp)
end Go.Proofs.YtolkchkedieppaaGreat

/- part of package num, where the divisor has two limbs or more. -/
namespace Go.Proofs.YtolkchkedieppaaGreat
open Go.RowKit
theorem lz_any (x s : Nat) (hx : x < 4294967296) (hs : (32 - (Lib.bitLen x : Int)) = (s : Int)) (W : World) :
    Calls Tryz.prog 144 #[.int .u32 (x : Nat)] W fun e w' => e = .returned (.int .i64 (s : Nat)) ∧ W = w' := by
  refine (Tryz.bits_LeadingZeros32 (x : Int) W (by omega) (by omega)).mono ?_
  rintro e w' ⟨rfl, rfl⟩
  rw [Int.toNat_natCast, hs]
  exact ⟨rfl, rfl⟩
/-- a window of a row of the call's own -/
theorem slice_win (g cap j n : Nat) (hn : j + n + 1 ≤ cap) (W : World) :
    (Instr.slice 110 (.slice (some ⟨g, 0, none⟩) cap cap) (some (.int .i64 (j : Int))) (some (.int .i64 ((j : Int) + n + 1))) none).run Tryz.prog W = .ok (.slice (some ⟨g, j, none⟩) (n + 1) (cap - j)) W := by
  rw [run_slice_lh W _ _ _ _ u32s _ _ _ _ (by omega) (by omega) (by omega), s32s]
  simp only [Result.andThen, sliced]
  rw [show ((j : Int)).toNat = j from rfl, show ((j : Int) + n + 1).toNat = j + n + 1 from by omega, if_neg (by omega)]
  congr 2
  · simp only [Option.map_some, Nat.mul_one, Addr.add]
    split <;> simp_all
  · omega
theorem row_grown {w w' : World} {b t n g : Nat} {q : Nat → Value} (h : w.rowIs b t n q) (hg : w.grownBy w' (some g)) (hne : b ≠ g) : w'.rowIs b t n q :=
  h.of_block (hg.block b h.lt (by intro e; exact hne (Option.some.inj e)))
theorem row_below {w w' : World} {b t n B : Nat} {q : Nat → Value} (h : w.rowIs b t n q) (hb : Below B w w') (hB : w.heap.size ≤ B) : w'.rowIs b t n q :=
  h.of_block (hb.block b (Nat.lt_of_lt_of_le h.lt hB))
set_option maxHeartbeats 4000000 in
theorem part_many (u v : Value) (x y : Nat) (w : World) (hu : Mag w u x) (hv : Mag w v y) (hle : y ≤ x) (hny : 2 ≤ nl y) (bx : nl x ≤ 549755813888) :
    Calls Tryz.prog 119 #[u, v] w fun e w' => ∃ q r, e = .returned (.tuple #[q, r]) ∧ Mag w' q (x / y) ∧ Mag w' r (x % y) ∧ Below w.heap.size w w' := by
  have hcm : 0 ≤ cmpN x y := by unfold cmpN; rw [if_neg (by omega)]; split <;> omega
  have hnxy := nl_mono hle
  have hyp : 0 < y := by rw [← nl_pos]; omega
  obtain ⟨s, hs32, hsb, hsn, hst⟩ := shift_facts y (nl y) rfl (by omega)
  have hp0 : 0 < 2 ^ s := Nat.two_pow_pos s
  have HC := Lib.hid (fun (W : World) => compare_any u v x y W)
  have HLZ := Lib.hid (lz_any (dig y (nl y - 1)) s (dig_lt _ _) hsb)
  have HU := Lib.hid hu
  have HV := Lib.hid hv
  obtain ⟨a1, b1, o1, c1, rfl, i1⟩ := hu
  obtain ⟨a2, b2, o2, c2, rfl, i2⟩ := hv
  have hc := i2.cell (nl y - 1) (by omega)
  simp only [lc] at hc
  have hx0 := fun W => ix32 i2 ((nl y : Int) - 1) (by omega) (by omega) (nl y) c2 W
  rw [show ((nl y : Int) - 1).toNat = nl y - 1 from by omega] at hx0
  have htr : trimN (dig (y * 2 ^ s)) (nl y + 1) = nl y := by
    rw [← nl_valF _ _ (fun i _ => dig_lt _ _), valF_dig_le _ _ (by omega), hsn]
  have hl1 : (((nl y : Nat) : Int) == 1) = false := by simp; omega
  have HST := Lib.hid hst
  have HSN := Lib.hid hsn
  have HLE := Lib.hid hle
  clear hsb hst hsn hle
  go_enter Tryz.func119, Tryz.ntmps119
  go_wp2_with (first | (go_at_call 142; refine (HC.out _ HU.out HV.out (by omega) (by omega)).mono ?_; rintro e w' ⟨rfl, nd, rfl⟩) | (go_at_call 144; refine (HLZ.out _).mono ?_; rintro e w' ⟨rfl, rfl⟩))
  refine (up_any _ y s _ (HV.out.drawn (Drawn.of _ _)) hs32 (by omega)).mono ?_
  rintro e W1 ⟨rfl, hrow1, hb1⟩
  simp only [World.heap_drewN] at hrow1 hb1
  go_wp2_with fail
  refine (trim_any _ w.heap.size 0 _ _ (dig (y * 2 ^ s)) _ (by omega) (IsSl.of_row hrow1 (Nat.le_refl _) _ (Nat.le_refl _))).mono ?_
  rintro e w' ⟨rfl, hww⟩
  have hww2 := hww.symm
  clear hww
  subst hww2
  go_wp2_with fail
  have HU1 : Mag W1 (.slice a1 (nl x) c1) x := (HU.out.drawn (Drawn.of _ nd)).mono hb1 (Nat.le_refl _)
  refine (up_any _ x s _ HU1 hs32 (by omega)).mono ?_
  rintro e W2 ⟨rfl, hrow2, hb2⟩
  have HR1 := Lib.hid hrow1
  have HR2 := Lib.hid hrow2
  have HB1 := Lib.hid hb1
  have HB2 := Lib.hid hb2
  clear hrow1 hrow2 hb1 hb2 HU1
  have hmk := run_make_row' (P := Tryz.prog) 110 166 (.int .u32 0) 4 Tryz.underlying110 info32 rfl .i64 .i64 (nl x - nl y + 1) (by omega) (by omega)
  have ec : ((nl x - nl y + 1 : Nat) : Int) = (nl x : Int) - (nl y : Int) + 1 := by omega
  rw [ec] at hmk
  clear ec
  go_wp2_with fail
  have z12 := HR1.out.lt
  have z23 := HR2.out.lt
  have HM := Lib.hid (World.rowIs_made W2 (.int .u32 0) (nl x - nl y + 1) 166)
  obtain ⟨X, hX⟩ : ∃ X, X = x * 2 ^ s := ⟨_, rfl⟩
  obtain ⟨Y, hY⟩ : ∃ Y, Y = y * 2 ^ s := ⟨_, rfl⟩
  rw [← hX] at HR2
  rw [← hY] at HR1 HST HSN htr
  have hY0 : 0 < Y := by rw [hY]; exact Nat.mul_pos hyp hp0
  have hXY : X < Y * 4294967296 ^ (nl x - nl y + 1) := by rw [hX, hY]; exact start_small x y _ _ _ rfl rfl (by omega) hnxy hp0
  have hXl : X < 4294967296 ^ (nl x + 1) := by
    rw [hX, Nat.pow_succ]
    have : 2 ^ s ≤ 4294967296 := by
      have := Nat.pow_le_pow_right (n := 2) (by omega) (show s ≤ 32 by omega)
      omega
    exact Nat.lt_of_lt_of_le (Nat.mul_lt_mul_of_pos_right (lt_pow_nl x) hp0) (Nat.mul_le_mul_left _ this)
  have hYl : Y ≤ 4294967296 ^ nl y := by
    have := lt_pow_nl Y
    rw [HSN.out] at this
    omega
  have HX := Lib.hid hX
  have HY := Lib.hid hY
  have HXY := Lib.hid hXY
  have HXL := Lib.hid hXl
  have HYL := Lib.hid hYl
  clear hX hY hXY hXl hYl htr hmk hc hx0
  go_loopw [13] (fun i wr => ∃ (k : Nat) (f qf : Nat → Nat), k ≤ nl x - nl y + 1 ∧ i = .int .i64 ((k : Int) - 1) ∧ wr.rowIs W1.heap.size 166 (nl x + 1) (fun t => .int .u32 (f t : Nat)) ∧
      (∀ t, t < nl x + 1 → f t < 4294967296) ∧ valF f (k + nl y) = X % (Y * 4294967296 ^ k) ∧ wr.rowIs W2.heap.size 166 (nl x - nl y + 1) (fun t => .int .u32 (qf t : Nat)) ∧
      (∀ t, k ≤ t → t < nl x - nl y + 1 → qf t = dig (X / Y) t) ∧ IsSl wr (some ⟨w.heap.size, 0, none⟩) w.heap.size 0 (nl y + 1) (nl y) (lc Y) ∧ Below w.heap.size w wr) (fun i _ => (intOf i + 1).toNat)
  case atStart =>
    have b12 : Below w.heap.size w W1 := ((Drawn.of w nd).below _).trans (HB1.out.mono (Nat.le_refl _))
    have b2 : Below w.heap.size w W2 := b12.trans (HB2.out.mono (by omega))
    have r1 : W2.rowIs w.heap.size 166 (nl y + 1) (lc Y) := row_below HR1.out HB2.out (Nat.le_refl _)
    refine ⟨nl x - nl y + 1, dig X, fun _ => 0, Nat.le_refl _, by congr 1; omega, HR2.out.alloc _, fun _ _ => dig_lt _ _, ?_, HM.out, fun t h1 h2 => by omega, IsSl.of_row (r1.alloc _) (by omega) _ (by omega), b2.alloc (by omega) _⟩
    rw [show nl x - nl y + 1 + nl y = nl x + 1 from by omega, valF_dig, Nat.mod_eq_of_lt HXL.out, Nat.mod_eq_of_lt HXY.out]
  case round =>
    obtain ⟨k, f, qf, hk, rfl, hrow, hf, hval, hq, hqf, hv2, hb⟩ := hrel
    have HF := Lib.hid hf
    have HVAL := Lib.hid hval
    have HQF := Lib.hid hqf
    have HV2 := Lib.hid hv2
    clear hf hval hqf hv2
    by_cases h0 : 0 < k
    · have hsl := slice_win W1.heap.size (nl x + 1) (k - 1) (nl y) (by omega)
      rw [show ((k - 1 : Nat) : Int) = (k : Int) - 1 from by omega] at hsl
      have hwin : valF (win f (k - 1)) (nl y + 1) < Y * 4294967296 := by
        refine win_lt f (k - 1) (nl y) X Y ?_ hY0
        rw [show k - 1 + (nl y + 1) = k + nl y from by omega, show k - 1 + 1 = k from by omega]
        exact HVAL.out
      have HWIN := Lib.hid hwin
      clear hwin
      go_wp2_with (go_at_call 146; refine (digit_any W1.heap.size (nl x + 1) (k - 1) (nl y) _ f _ w.heap.size 0 _ Y _ HV2.out HSN.out hny (by omega) hrow HF.out (by omega) (by omega) (by omega) HST.out HWIN.out).mono ?_; rintro e w' ⟨f', rfl, hrow', hsame', hf', hval', hgr'⟩; have hq' := row_grown hq hgr' (by omega); have hcq := hq'.cell (i := k - 1) (by omega); have hfq := hq'.frozen (k - 1); have HS := Lib.hid hsame'; have HF2 := Lib.hid hf'; have HV3 := Lib.hid hval'; clear hsame' hf' hval')
      go_roundw
      case rel =>
        have hqs := quo_step f f' (k - 1) (nl y) X Y (fun i hi => HF.out i (by omega)) (fun i hi => HF2.out _ (by omega)) hY0 HYL.out
          (by rw [show k - 1 + (nl y + 1) = k + nl y from by omega, show k - 1 + 1 = k from by omega]; exact HVAL.out) (fun t ht => HS.out t (by omega)) HV3.out
        refine ⟨k - 1, f', upd qf (k - 1) (valF (win f (k - 1)) (nl y + 1) / Y), by omega, by congr 1; omega, hrow'.setOther (by show W1.heap.size ≠ W2.heap.size; omega) _, HF2.out, hqs.1, row_upd hq' _ _ rfl, ?_,
          (HV2.out.grown hgr' (by omega)).grown (grown_set (World.grownBy.refl _ _) _ _) (by omega), (hb.grown hgr' hb.size (fun j hj => by cases hj; omega)).setCell (by show w.heap.size ≤ W2.heap.size; omega) _⟩
        intro t h1 h2
        unfold upd
        split
        · rename_i e; rw [e]; exact hqs.2
        · exact HQF.out t (by omega) h2
      case measure => simp [intOf]; omega
    · obtain rfl : k = 0 := by omega
      have hq1 : ∀ t, t < nl x - nl y + 1 → qf t = dig (X / Y) t := fun t ht => HQF.out t (Nat.zero_le _) ht
      have hXY2 : X / Y = x / y := by rw [HX.out, HY.out]; exact Nat.mul_div_mul_right _ _ hp0
      have hm2 : X % Y / 2 ^ s = x % y := by rw [HX.out, HY.out, Nat.mul_mod_mul_right, Nat.mul_div_cancel _ hp0]
      have hr1 : valF f (nl y) = X % Y := by have := HVAL.out; simpa using this
      have hql : X / Y < 4294967296 ^ (nl x - nl y + 1) := by rw [Nat.div_lt_iff_lt_mul hY0, Nat.mul_comm]; exact HXY.out
      have hqv : valF qf (nl x - nl y + 1) = x / y := by rw [valF_congr hq1, valF_dig, Nat.mod_eq_of_lt hql, hXY2]
      have hql2 : ∀ t, t < nl x - nl y + 1 → qf t < 4294967296 := fun t ht => by rw [hq1 t ht]; exact dig_lt _ _
      have m1 := trim_mag hql2 (IsSl.of_row hq (Nat.le_refl _) (nl x - nl y + 1) (Nat.le_refl _))
      have m2 := trim_mag (n := nl y) (fun t ht => HF.out t (by omega)) (IsSl.of_row hrow (by omega) (nl x + 1) (by omega))
      rw [hqv] at m1
      rw [hr1] at m2
      have hnr : nl (X % Y) ≤ 549755813889 := by
        have := nl_mono (Nat.le_of_lt (Nat.mod_lt X hY0))
        rw [HSN.out] at this
        omega
      have M1 := Lib.hid m1
      have M2 := Lib.hid m2
      have HM2 := Lib.hid hm2
      clear hq1 hXY2 hm2 hr1 hql hqv hql2 m1 m2
      go_wp2
      go_region_with (first | (go_at_call 116; (with_reducible refine (trim_any (some ⟨W2.heap.size, 0, none⟩) W2.heap.size 0 (nl x - nl y + 1) (nl x - nl y + 1) qf _ (by omega) (IsSl.of_row hq (Nat.le_refl _) _ (Nat.le_refl _)).drew).mono ?_); rintro e w' ⟨rfl, hww⟩; have hww2 := hww.symm; clear hww; subst hww2) | (go_at_call 116; (with_reducible refine (trim_any (some ⟨W1.heap.size, 0, none⟩) W1.heap.size 0 (nl x + 1) (nl y) f _ (by omega) (IsSl.of_row hrow (by omega) _ (by omega)).drew).mono ?_); rintro e w' ⟨rfl, hww⟩; have hww2 := hww.symm; clear hww; subst hww2) | (go_at_call 147; refine (down_any _ (X % Y) s _ M2.out.drew hs32 (by omega)).mono ?_; rintro e w5 ⟨r5, rfl, hr5, hb5⟩))
      all_goals
        go_wp2
        go_ret2
        refine ⟨.slice (some ⟨W2.heap.size, 0, none⟩) (trimN qf (nl x - nl y + 1)) (nl x - nl y + 1), r5, rfl, M1.out.drew.mono hb5 (Nat.le_refl _), ?_, hb.drew.trans (hb5.mono hb.size)⟩
        rw [← HM2.out]
        exact hr5
theorem part_any (u v : Value) (x y : Nat) (w : World) (hu : Mag w u x) (hv : Mag w v y) (hy : 0 < y) (bx : nl x ≤ 549755813888) (b_y : nl y ≤ 549755813888) :
    Calls Tryz.prog 119 #[u, v] w fun e w' => ∃ q r, e = .returned (.tuple #[q, r]) ∧ Mag w' q (x / y) ∧ Mag w' r (x % y) ∧ Below w.heap.size w w' := by
  rcases Nat.lt_or_ge x y with h | h
  · exact part_less u v x y w hu hv h (by omega) (by omega)
  · have h1 := (nl_pos y).2 hy
    by_cases h2 : nl y = 1
    · exact part_one u v x y w hu hv h h2 (by omega)
    · exact part_many u v x y w hu hv h (by omega) bx
end Go.Proofs.YtolkchkedieppaaGreat

/- The methods of Int of package num: made, Of, Neg, Sign. -/
namespace Go.Proofs.YtolkchkedieppaaGreat
open Go.RowKit
theorem made_any (u : Value) (s : Bool) (x : Nat) (w : World) (hu : Mag w u x) :
    Calls Tryz.prog 115 #[.bool s, u] w fun e w' => e = .returned (.agg #[.bool (s && decide (0 < x)), u]) ∧ Mag w' u x ∧ Below w.heap.size w w' := by
  have HU := Lib.hid hu
  obtain ⟨a1, b1, o1, c1, rfl, i1⟩ := hu
  have HM : Hid (∀ v0 v1, Mag (w.alloc (Obj.cells #[v0, v1] 112)) (.slice a1 (nl x) c1) x) := fun v0 v1 => HU.out.alloc _
  have HB := Lib.hid (fun (v0 v1 : Value) => boxes1 w (Obj.cells #[v0, v1] 112))
  have hp := nl_pos x
  cases s with
  | false =>
    go_enter Tryz.func115, Tryz.ntmps115
    go_wp2
    refine bodyPost_ret (v := .agg #[.bool false, .slice a1 (nl x) c1]) (by simp [results, Tryz.results115, go_sem]) rfl ?_
    exact ⟨by simp, HM.out _ _, HB.out _ _⟩
  | true =>
    by_cases h : 0 < x
    · have h2 : 0 < nl x := hp.2 h
      clear hp
      go_enter Tryz.func115, Tryz.ntmps115
      go_wp2
      refine bodyPost_ret (v := .agg #[.bool true, .slice a1 (nl x) c1]) (by simp [results, Tryz.results115, go_sem]) rfl ?_
      exact ⟨by simp [h], HM.out _ _, HB.out _ _⟩
    · have h2 : ¬ 0 < nl x := fun q => h (hp.1 q)
      clear hp
      go_enter Tryz.func115, Tryz.ntmps115
      go_wp2
      refine bodyPost_ret (v := .agg #[.bool false, .slice a1 (nl x) c1]) (by simp [results, Tryz.results115, go_sem]) rfl ?_
      exact ⟨by simp [h], HM.out _ _, HB.out _ _⟩
end Go.Proofs.YtolkchkedieppaaGreat
