/- Plain: decimal texts. -/
import Derived.Test.YtolkchkedieppaaGreatZPlainD
import Derived.Test.YtolkchkedieppaaGreatZNum7
import Derived.Handy
import Derived.Maps.AppendAt
import Derived.Outline
import Derived.Laws.BytesString
import Derived.Test.YtolkchkedieppaaGreatZGen
set_option linter.unusedVariables false
set_option linter.unusedSimpArgs false
namespace Go.Proofs.YtolkchkedieppaaGreat
/-- the value of a byte as a decimal digit -/
def dv (c : Nat) : Nat := if 48 ≤ c ∧ c ≤ 57 then c - 48 else 0
theorem dv_lt (c : Nat) : dv c < 10 := by unfold dv; split <;> omega
/-- the number with the decimal digits g 0, g 1 .., the greatest first -/
def valT (g : Nat → Nat) : Nat → Nat
 | 0 => 0
 | n + 1 => 10 * valT g n + g n
theorem valT_congr {g h : Nat → Nat} : ∀ n, (∀ i, i < n → g i = h i) → valT g n = valT h n
 | 0, _ => rfl
 | n + 1, e => by simp only [valT]; rw [valT_congr n (fun i hi => e i (by omega)), e n (by omega)]
theorem valT_lt {g : Nat → Nat} (h : ∀ i, g i < 10) : ∀ n, valT g n < 10 ^ n
 | 0 => by simp [valT]
 | n + 1 => by
  have h1 := valT_lt h n
  have h2 := h n
  simp only [valT, Nat.pow_succ]
  omega
theorem valT_split (g : Nat → Nat) (lo : Nat) : ∀ d, valT g (lo + d) = valT g lo * 10 ^ d + valT (fun i => g (lo + i)) d
 | 0 => by simp [valT]
 | d + 1 => by
  show 10 * valT g (lo + d) + g (lo + d) = _
  rw [valT_split g lo d]
  simp only [valT, Nat.pow_succ]
  rw [Nat.mul_add, ← Nat.mul_assoc, Nat.mul_comm 10, Nat.mul_assoc, Nat.mul_comm 10]
  omega
theorem valT_div {g : Nat → Nat} (h : ∀ i, g i < 10) (lo d : Nat) : valT g (lo + d) / 10 ^ d = valT g lo := by
 rw [valT_split, Nat.mul_comm, Nat.mul_add_div (Nat.pow_pos (by omega)), Nat.div_eq_of_lt (valT_lt (fun i => h (lo + i)) d)]
 omega
/-- a block of four digits, from the end -/
theorem valT_block {g : Nat → Nat} (h : ∀ i, g i < 10) (L k at' lo d : Nat) (h1 : L = at' + 4 * k) (h2 : at' = lo + d) (h3 : d = 4 ∨ (d < 4 ∧ lo = 0)) : valT (fun i => g (lo + i)) d = dg (valT g L) k := by
 unfold dg
 have e : (10000 : Nat) ^ k = 10 ^ (4 * k) := by rw [Nat.pow_mul]
 rw [e, h1, valT_div h at' (4 * k), h2, valT_split]
 have hl := valT_lt (g := fun i => g (lo + i)) (fun i => h (lo + i)) d
 rcases h3 with rfl | ⟨h3, rfl⟩
 ·omega
 ·simp only [valT, Nat.zero_mul, Nat.zero_add] at hl ⊢
  have : (10 : Nat) ^ d ≤ 10 ^ 4 := Nat.pow_le_pow_right (by omega) (by omega)
  rw [Nat.mod_eq_of_lt (by omega)]
theorem valT_nd {g : Nat → Nat} (h : ∀ i, g i < 10) (L K : Nat) (hK : L ≤ 4 * K) : nd (valT g L) ≤ K := by
 rw [nd_le]
 have e : (10000 : Nat) ^ K = 10 ^ (4 * K) := by rw [Nat.pow_mul]
 rw [e]
 exact Nat.lt_of_lt_of_le (valT_lt h L) (Nat.pow_le_pow_right (by omega) hK)
/-- a text of decimal digits, without a zero ahead, of at most 4000 -/
def okD (L : Nat) (f : Nat → Nat) : Prop := 1 ≤ L ∧ L ≤ 4000 ∧ ¬ (f 0 = 48 ∧ 1 < L) ∧ ∀ i, i < L → 48 ≤ f i ∧ f i ≤ 57
/-- its value -/
def numD (L : Nat) (f : Nat → Nat) : Nat := valT (fun i => dv (f i)) L
end Go.Proofs.YtolkchkedieppaaGreat

/- Plain: the decimal text of a number, of a fraction. -/
namespace Go.Proofs.YtolkchkedieppaaGreat
/-- decimal digit i of x, the least first -/
def d10 (x i : Nat) : Nat := x / 10 ^ i % 10
theorem d10_lt (x i : Nat) : d10 x i < 10 := Nat.mod_lt _ (by omega)
/-- L is the number of decimal digits of x (1 for 0) -/
structure Len10 (x L : Nat) : Prop where
 lt : x < 10 ^ L
 zero : x = 0 → L = 1
 ge : 0 < x → 0 < L ∧ 10 ^ (L - 1) ≤ x
theorem Len10.pos {x L : Nat} (h : Len10 x L) : 1 ≤ L := by
 rcases Nat.eq_zero_or_pos x with e | e
 ·rw [h.zero e]; omega
 ·exact (h.ge e).1
theorem Len10.le {x L K : Nat} (h : Len10 x L) (hK : 1 ≤ K) (hx : x < 10 ^ K) : L ≤ K := by
 rcases Nat.eq_zero_or_pos x with e | e
 ·rw [h.zero e]; omega
 ·obtain ⟨h1, h2⟩ := h.ge e
  rcases Nat.lt_or_ge K L with hlt | hge
  ·exfalso
   have : 10 ^ K ≤ 10 ^ (L - 1) := Nat.pow_le_pow_right (by omega) (by omega)
   omega
  ·exact hge
theorem valT_d10 (x L : Nat) (h : x < 10 ^ L) : valT (fun i => d10 x (L - 1 - i)) L = x := by
 have key : ∀ k, k ≤ L → valT (fun i => d10 x (L - 1 - i)) k = x / 10 ^ (L - k) := by
  intro k
  induction k with
  | zero => intro _; simp only [valT]; rw [Nat.sub_zero, Nat.div_eq_of_lt h]
  | succ k ih =>
   intro hk
   simp only [valT]
   rw [ih (by omega)]
   unfold d10
   have e : L - k = (L - (k + 1)) + 1 := by omega
   rw [e, Nat.pow_succ, ← Nat.div_div_eq_div_mul, show L - 1 - k = L - (k + 1) by omega]
   omega
 rw [key L (Nat.le_refl _), Nat.sub_self, Nat.pow_zero, Nat.div_one]
/-- s is the decimal text of x -/
def IsTxt (s : ByteArray) (x : Nat) : Prop := ∃ L, Len10 x L ∧ s.size = L ∧ ∀ (i : Nat) (h : i < s.size), s[i].toNat = 48 + d10 x (L - 1 - i)
theorem okD_txt {x L : Nat} (h : Len10 x L) (hx : x < 10 ^ 4000) : okD L (fun i => 48 + d10 x (L - 1 - i)) := by
 refine ⟨h.pos, h.le (by omega) hx, ?_, fun i _ => ?_⟩
 ·rintro ⟨h1, h2⟩
  have h0 : 0 < x := by
   rcases Nat.eq_zero_or_pos x with e | e
   ·have := h.zero e; omega
   ·exact e
  obtain ⟨_, h3⟩ := h.ge h0
  have h4 : 1 ≤ x / 10 ^ (L - 1) := (Nat.le_div_iff_mul_le (Nat.pow_pos (by omega))).2 (by omega)
  have h5 : x / 10 ^ (L - 1) < 10 := by
   rw [Nat.div_lt_iff_lt_mul (Nat.pow_pos (by omega))]
   have h6 := h.lt
   rw [show L = (L - 1) + 1 by omega, Nat.pow_succ] at h6
   omega
  simp only [d10, Nat.sub_zero] at h1
  rw [Nat.mod_eq_of_lt h5] at h1
  omega
 ·have := d10_lt x (L - 1 - i)
  dsimp only
  omega
theorem numD_txt {x L : Nat} (h : Len10 x L) : numD L (fun i => 48 + d10 x (L - 1 - i)) = x := by
 unfold numD
 rw [valT_congr L (h := fun i => d10 x (L - 1 - i)) (fun i _ => ?_), valT_d10 x L h.lt]
 have := d10_lt x (L - 1 - i)
 simp only [dv]
 rw [if_pos (by omega)]; omega
theorem txt_no (x L i : Nat) : 48 + d10 x (L - 1 - i) ≠ 47 ∧ 48 + d10 x (L - 1 - i) ≠ 45 := by omega
/-- s is the text of the number p / d (in lowest terms) -/
def FracTxt (s : ByteArray) (p : Int) (d : Nat) : Prop :=
 ∃ t, IsTxt t p.natAbs ∧ ((d = 1 ∧ s = (if p < 0 then ⟨#[45]⟩ ++ t else t)) ∨ (d ≠ 1 ∧ ∃ u, IsTxt u d ∧ s = (if p < 0 then ⟨#[45]⟩ ++ t else t) ++ (⟨#[47]⟩ ++ u)))
end Go.Proofs.YtolkchkedieppaaGreat

/- text of package num: the decimal digits of a number of any size. -/
namespace Go.Proofs.YtolkchkedieppaaGreat
open Go.RowKit
theorem info8b : (Tryz.prog.info? 5).map (fun i => (i.zero, i.size, i.bytes)) = some (some (.int .u8 0), 1, 1) := by kernel_rfl
/-- the first m decimal digits of x, the least first, as cells -/
def tcs (x m : Nat) : List Value := (List.range m).map (fun i => .int .u8 (48 + (d10 x i : Nat)))
theorem tcs_get (x m i : Nat) (h : i < m) : (tcs x m)[i]? = some (.int .u8 (48 + (d10 x i : Nat))) := by simp [tcs, h]
theorem tcs_succ (x m : Nat) : tcs x m ++ [.int .u8 (48 + (d10 x m : Nat))] = tcs x (m + 1) := by simp [tcs, List.range_succ]
theorem foldl_push (zs : List Int) : ∀ acc : ByteArray, (zs.foldl (fun r n => r.push (UInt8.ofNat n.toNat)) acc).data.toList = acc.data.toList ++ zs.map (fun n => UInt8.ofNat n.toNat) := by
 induction zs with
 | nil => intro acc; simp
 | cons z zs ih => intro acc; simp only [List.foldl_cons, ih]; simp [ByteArray.push]
theorem conv_txt (W : World) (g c x L : Nat) (hL : Len10 x L) (h : ∀ i, i < L → W.cell? ⟨g, i, none⟩ = some (.int .u8 (48 + (d10 x (L - 1 - i) : Nat)))) :
  ∃ s, IsTxt s x ∧ (convert 42 9 (.slice (some ⟨g, 0, none⟩) L c)).run Tryz.prog W = .ok (.string s) W := by
 refine ⟨((List.range L).map (fun i => 48 + ((d10 x (L - 1 - i) : Nat) : Int))).foldl (fun r n => r.push (UInt8.ofNat n.toNat)) ByteArray.empty, ?_, ?_⟩
 rotate_left
 ·rw [run_convert_bytes_string W 42 9 5 _ _ _ Tryz.underlying42 Tryz.underlying5 Tryz.underlying9,
   run_bytesToString W ⟨g, 0, none⟩ L c ((List.range L).map (fun i => 48 + (d10 x (L - 1 - i) : Nat))) ?_]
  have hl := run_loadCells_list (P := Tryz.prog) W ⟨g, 0, none⟩ (((List.range L).map (fun i => 48 + ((d10 x (L - 1 - i) : Nat) : Int))).map (Value.int .u8)) (fun j v hv => by
   have hj : j < L := by
    have := (List.getElem?_eq_some_iff.1 hv).1
    simpa using this
   simp [hj] at hv
   subst hv
   rw [add_at, Nat.zero_add]
   exact h j hj)
  simpa using hl
 ·have hp := foldl_push ((List.range L).map (fun i => 48 + ((d10 x (L - 1 - i) : Nat) : Int))) ByteArray.empty
  generalize (List.map (fun i => 48 + ((d10 x (L - 1 - i) : Nat) : Int)) (List.range L)).foldl (fun r n => r.push (UInt8.ofNat n.toNat)) ByteArray.empty = s at *
  have hs : s.data.size = L := by
   have h2 := congrArg List.length hp
   rw [Array.length_toList] at h2
   rw [h2, List.length_append, List.length_map, List.length_map, List.length_range]
   exact Nat.zero_add L
  refine ⟨L, hL, hs, fun i hi => ?_⟩
  have hi2 : i < s.data.size := hi
  have h3 : s.data.toList[i]? = some (UInt8.ofNat (48 + d10 x (L - 1 - i))) := by
   rw [hp, show ByteArray.empty.data.toList = [] from rfl, List.nil_append, List.getElem?_map, List.getElem?_map, List.getElem?_range (by omega)]
   rfl
  have h4 : s.data.toList[i]? = some (s[i]) := by
   rw [Array.getElem?_toList, Array.getElem?_eq_getElem hi2]; rfl
  rw [h3] at h4
  rw [← Option.some.inj h4, UInt8.toNat_ofNat']
  have := d10_lt x (L - 1 - i)
  omega
theorem pow_le_nl {x m : Nat} (h : 10 ^ m ≤ x) : m ≤ 10 * nl x := by
 rcases Nat.lt_or_ge (10 * nl x) m with h1 | h1
 ·exfalso
  have h2 : x < 4294967296 ^ nl x := (nl_le x (nl x)).1 (Nat.le_refl _)
  have h3 : 4294967296 ^ nl x ≤ (10 ^ 10) ^ nl x := Nat.pow_le_pow_left (by decide) _
  rw [← Nat.pow_mul] at h3
  have h4 : 10 ^ (10 * nl x) ≤ 10 ^ m := Nat.pow_le_pow_right (by omega) (by omega)
  omega
 ·exact h1
theorem quo10 (x m i : Nat) (hi : i < 9) : x / 10 ^ m % 1000000000 / 10 ^ i % 10 = d10 x (m + i) ∧ x / 10 ^ m % 1000000000 / 10 ^ i / 10 = x / 10 ^ m % 1000000000 / 10 ^ (i + 1) := by
 refine ⟨?_, by rw [Nat.pow_succ, Nat.div_div_eq_div_mul]⟩
 unfold d10
 rw [Nat.pow_add, ← Nat.div_div_eq_div_mul]
 generalize x / 10 ^ m = X
 have e : (1000000000 : Nat) = 10 ^ i * 10 ^ (9 - i) := by rw [← Nat.pow_add, show i + (9 - i) = 9 by omega]
 rw [e, Nat.mod_mul_right_div_self]
 have e2 : (10 : Nat) ^ (9 - i) = 10 * 10 ^ (8 - i) := by rw [show 9 - i = (8 - i) + 1 by omega, Nat.pow_succ, Nat.mul_comm]
 rw [e2, Nat.mod_mul_right_mod]
/-- a round of digits goes on: there is a digit still -/
theorem more10 {x m i : Nat} (hi : i < 9) (h : 0 < x / 10 ^ m / 1000000000 ∨ 0 < x / 10 ^ m % 1000000000 / 10 ^ i) : 10 ^ (m + i) ≤ x := by
 have h1 : 0 < x / 10 ^ m / 10 ^ i := by
  rcases h with h | h
  ·refine (Nat.div_pos_iff).2 ⟨Nat.pow_pos (by omega), ?_⟩
   have h2 : 10 ^ i ≤ 10 ^ 9 := Nat.pow_le_pow_right (by omega) (by omega)
   have h3 := ((Nat.div_pos_iff).1 h).2
   omega
  ·refine (Nat.div_pos_iff).2 ⟨Nat.pow_pos (by omega), ?_⟩
   have h3 := ((Nat.div_pos_iff).1 h).2
   have := Nat.mod_le (x / 10 ^ m) 1000000000
   omega
 rw [Nat.div_div_eq_div_mul, ← Nat.pow_add] at h1
 exact ((Nat.div_pos_iff).1 h1).2
/-- it does not -/
theorem done10 {x m i : Nat} (h : i = 9 ∨ (i < 9 ∧ x / 10 ^ m / 1000000000 = 0 ∧ x / 10 ^ m % 1000000000 / 10 ^ i = 0)) : x / 10 ^ m / 1000000000 = x / 10 ^ (m + i) := by
 rw [Nat.pow_add, ← Nat.div_div_eq_div_mul]
 rcases h with rfl | ⟨h1, h2, h3⟩
 ·rfl
 ·rw [h2]
  rw [Nat.mod_eq_of_lt ((Nat.div_eq_zero_iff_lt (by omega)).1 h2)] at h3
  exact h3.symm
/-- bytes gathered by append, as a row -/
theorem own_rowF {w : World} {base n : Nat} {a : Option Addr} {c : Nat} {x : Nat} (h : w.ownsRow base 5 1 (.slice a n c) n (tcs x n)) (hn : 0 < n) :
  ∃ g cap F, a = some ⟨g, 0, none⟩ ∧ base ≤ g ∧ n ≤ cap ∧ w.rowIs g 5 cap F ∧ ∀ i, i < n → F i = .int .u8 (48 + (d10 x i : Nat)) := by
 have h0 := h
 rcases h.2 with ⟨e, rfl⟩ | ⟨g, cap, cur, e, hbg, hg, hnc, hcm, hcs, htake⟩
 ·omega
 ·injection e with e1 e2 e3
  subst e1
  refine ⟨g, cap, fun i => (cur[i]?).getD (.int .u8 0), rfl, hbg, hnc, ⟨cur, hg, by simpa using hcs, fun i hi => ?_⟩, fun i hi => ?_⟩
  ·simp [show i < cur.size by omega]
  ·have h1 : (cur.toList.take (n * 1))[i]? = some (.int .u8 (48 + (d10 x i : Nat))) := by rw [htake]; exact tcs_get x n i hi
   rw [List.getElem?_take_of_lt (by omega), Array.getElem?_toList] at h1
   show (cur[i]?).getD _ = _
   rw [h1]; rfl
/-- what was read before a slice of the call's own grew -/
theorem mag_grown {w w' : World} {base : Nat} {v u : Value} {x : Nat} (h : Mag w u x) (hl : ∀ k, u.ownBlock = some k → v.ownBlock ≠ some k) (o : Obj) (hg : (w.alloc o).grownBy w' v.ownBlock)
  (hbk : ∀ k, v.ownBlock = some k → base ≤ k ∧ k < (w.alloc o).heap.size) : Mag w' u x := by
 obtain ⟨a, b, oo, c, rfl, hs⟩ := h
 have hs := hs.alloc o
 refine ⟨a, b, oo, c, rfl, ⟨hs.cap, hs.at_, fun q => Nat.lt_of_lt_of_le (hs.lt q) hg.size, fun i hi => ?_, hs.nc⟩⟩
 have hb := hs.lt (by omega)
 have hk := hg.block b hb (by
  have := hs.at_ (by omega)
  subst this
  intro e
  exact hl b rfl e.symm)
 rw [← hs.cell i hi]
 unfold World.cell?
 rw [hk]
theorem far_grown {w w' : World} {o : Obj} {aq va va' : Option Addr} {n c n' c' : Nat} (h : ∀ k, blk aq = some k → blk va ≠ some k ∧ k ≤ w.heap.size)
  (hb : (Value.slice va' n' c').ownBlock = (Value.slice va n c).ownBlock ∨ (Value.slice va' n' c').ownBlock = some (w.alloc o).heap.size) (hg : (w.alloc o).grownBy w' (Value.slice va n c).ownBlock) :
  ∀ k, blk aq = some k → blk va' ≠ some k ∧ k ≤ w'.heap.size := fun k e => by
 obtain ⟨h1, h2⟩ := h k e
 have hs := hg.size
 have ha : (w.alloc o).heap.size = w.heap.size + 1 := by simp
 simp only [ownBlock_blk] at hb
 refine ⟨fun e2 => ?_, by omega⟩
 rcases hb with hb | hb
 ·rw [hb] at e2; exact h1 e2
 ·rw [hb] at e2; have := Option.some.inj e2; omega
theorem byWord_9 (u : Value) (x : Nat) (w : World) (hu : Mag w u x) (bx : nl x ≤ 1099511627776) :
  Calls Tryz.prog 143 #[u, .int .u32 1000000000] w fun e w' => ∃ a c, e = .returned (.tuple #[.slice a (nl (x / 1000000000)) c, .int .u32 (x % 1000000000 : Nat)]) ∧ Hid (Mag w' (.slice a (nl (x / 1000000000)) c) (x / 1000000000)) ∧ (∀ k, blk a = some k → k = w.heap.size) ∧ Below w.heap.size w w' := by
 refine (byWord_own u x 1000000000 w hu (by omega) (by omega) bx).mono ?_
 rintro e w' ⟨r, rfl, hr, hk, hb⟩
 have h0 := hr
 obtain ⟨a, b, o, c, rfl, -⟩ := hr
 exact ⟨a, c, rfl, Lib.hid h0, fun k e => hk k (by rw [ownBlock_blk]; exact e), hb⟩
set_option maxHeartbeats 4000000 in
set_option maxRecDepth 100000 in
theorem text_any (u : Value) (x : Nat) (w : World) (hu : Mag w u x) (h0 : 0 < x) (hK : nl x ≤ 1000000000) :
  Calls Tryz.prog 125 #[u] w fun e w' => ∃ s, e = .returned (.string s) ∧ IsTxt s x ∧ Below w.heap.size w w' := by
 obtain ⟨a0, b0, o0, c0, rfl, i0⟩ := hu
 have HM0 : Hid (Mag w (.slice a0 (nl x) c0) x) := Lib.hid ⟨a0, b0, o0, c0, rfl, i0⟩
 clear i0
 have hnx := (nl_pos x).2 h0
 obtain ⟨i0, hi, hz0, hz1, hz2⟩ := info_parts info8b
 have HK := Lib.hid hK
 have H0 := Lib.hid h0
 have KW0 := Lib.hid (Below.refl w.heap.size w)
 have hne : ((nl x : Int) == 0) = false := by simp; omega
 clear hK h0 hnx
 go_enter Tryz.func125, Tryz.ntmps125
 go_wp2
 clear hne
 go_loopw [0, 3, 4, 5, 6] (fun v0 v3 v4 v5 v6 wr => ∃ (m : Nat) (a : Option Addr) (c : Nat) (va : Option Addr) (vk : Nat), v0 = .slice a (nl (x / 10 ^ m)) c ∧ v3 = .slice va m vk ∧ Hid (Mag wr (.slice a (nl (x / 10 ^ m)) c) (x / 10 ^ m)) ∧
   Hid (wr.ownsRow w.heap.size 5 1 (.slice va m vk) m (tcs x m)) ∧ Hid (0 < m → 10 ^ (m - 1) ≤ x) ∧ Hid (Below w.heap.size w wr)) (fun _ v3 _ _ _ _ => match v3 with | .slice _ k _ => 10 * nl x + 20 - k | _ => 0)
 case atStart =>
  exact ⟨0, a0, c0, none, 0, by rw [Nat.pow_zero, Nat.div_one], rfl, by rw [Nat.pow_zero, Nat.div_one]; exact HM0, Lib.hid (World.ownsRow_nil _ _ _ _), Lib.hid (fun h => by omega), KW0⟩
 case round =>
  clear KW0 HM0
  obtain ⟨m, a, c, va, vk, rfl, rfl, HM, OW, HP, KW⟩ := hrel
  by_cases hX : 0 < x / 10 ^ m
  ·have hnX := (nl_pos (x / 10 ^ m)).2 hX
   have hgt : decide ((0 : Int) < (nl (x / 10 ^ m) : Int)) = true := by simp; omega
   have hgt2 : decide (0 < nl (x / 10 ^ m)) = true := by simp; omega
   have HX := Lib.hid hX
   have HN : Hid (nl (x / 10 ^ m) ≤ 1099511627776) := Lib.hid (by
    have h1 : nl (x / 10 ^ m) ≤ nl x := by
     rw [nl_le]; exact Nat.lt_of_le_of_lt (Nat.div_le_self _ _) ((nl_le x (nl x)).1 (Nat.le_refl _))
    have := HK.out; omega)
   have HM9 : Hid (m ≤ 10 * nl x) := Lib.hid (pow_le_nl ((Nat.div_pos_iff).1 hX).2)
   clear hX hnX
   go_wp2_with (first
    | (go_at_call 143; go_loud ((with_reducible refine (byWord_9 _ (x / 10 ^ m) _ HM.out HN.out).mono ?_); rintro e w1 ⟨aq, cq, rfl, HQ, hkq, hb1⟩; have HL : Hid (∀ k, blk aq = some k → blk va ≠ some k ∧ k ≤ w1.heap.size) := Lib.hid (fun k e => ⟨fun e2 => by have h1 := hkq k e; have h2 := (OW.out.lt k (by rw [ownBlock_blk]; exact e2)).2; omega, by have h1 := hkq k e; have h2 := hb1.size; omega⟩); clear hkq; have OW1 := Lib.hid (own_kept OW.out hb1); have KW1 := Lib.hid (KW.out.trans (hb1.mono KW.out.size)); clear hb1)))
   clear OW KW HM HN
   obtain ⟨wo, rfl⟩ : ∃ wo : World, wo = w1 := ⟨_, rfl⟩
   go_loopw [3, 5, 6] (fun v3 v5 v6 wi => ∃ (i r : Nat) (va : Option Addr) (vk : Nat), i ≤ 9 ∧ v6 = .int .i64 (i : Nat) ∧ v5 = .int .u32 (r : Nat) ∧ r < 1000000000 ∧ Hid (r = x / 10 ^ m % 1000000000 / 10 ^ i) ∧ v3 = .slice va (m + i) vk ∧
     Hid (Mag wi (.slice aq (nl (x / 10 ^ m / 1000000000)) cq) (x / 10 ^ m / 1000000000)) ∧ Hid (wi.ownsRow w.heap.size 5 1 (.slice va (m + i) vk) (m + i) (tcs x (m + i))) ∧ Hid (0 < m + i → 10 ^ (m + i - 1) ≤ x) ∧ Hid (∀ k, blk aq = some k → blk va ≠ some k ∧ k ≤ wi.heap.size) ∧ Hid (Below w.heap.size w wi)) (fun _ _ v6 _ => 9 - (intOf v6).toNat)
   case atStart => exact ⟨0, x / 10 ^ m % 1000000000, va, vk, by omega, rfl, rfl, Nat.mod_lt _ (by omega), Lib.hid (by rw [Nat.pow_zero, Nat.div_one]), rfl, HQ, OW1, HP, HL, KW1⟩
   case round =>
    clear HQ OW1 HP HL KW1
    obtain ⟨i, r, va, vk, hi9, rfl, rfl, hr, HR, rfl, HQ, OW, HP, HL, KW⟩ := hrel
    by_cases hgo : i < 9 ∧ (0 < x / 10 ^ m / 1000000000 ∨ 0 < r)
    ·obtain ⟨hlt, hor⟩ := hgo
     have HMR : Hid (10 ^ (m + i) ≤ x) := Lib.hid (by rw [HR.out] at hor; exact more10 hlt hor)
     obtain ⟨q1, q2⟩ := quo10 x m i hlt
     rw [← HR.out] at q1 q2
     have hdig := d10_lt x (m + i)
     have hm : (r : Int) % 10 = (d10 x (m + i) : Nat) := by rw [← q1]; omega
     obtain ⟨r', hr'⟩ : ∃ r' : Nat, r / 10 = r' := ⟨_, rfl⟩
     have hq : (r : Int) / 10 = (r' : Nat) := by rw [← hr']; omega
     have HR' : Hid (r' = x / 10 ^ m % 1000000000 / 10 ^ (i + 1)) := Lib.hid (by rw [← hr']; exact q2)
     have hr'l : r' < 1000000000 := by omega
     clear q1 q2 hr'
     generalize hd : d10 x (m + i) = dd at *
     have HDD := Lib.hid hd
     clear hd
     have HA1 : Hid (m + i + 1 ≤ maxLen) := Lib.hid (by have := HM9.out; have := HK.out; unfold maxLen; omega)
     have HA2 : Hid ((m + i + 1) * 1 ≤ 140737488355328) := Lib.hid (by have := HM9.out; have := HK.out; omega)
     have HA3 : Hid (w.heap.size ≤ (wr.alloc (.cells #[.int .u8 (48 + (dd : Nat))] 5)).heap.size) := Lib.hid (by have := KW.out.size; simp; omega)
     by_cases hQ : 0 < x / 10 ^ m / 1000000000
     ·have hnQ := (nl_pos (x / 10 ^ m / 1000000000)).2 hQ
      have t1 : decide ((0 : Int) < (nl (x / 10 ^ m / 1000000000) : Int)) = true := by simp; omega
      have t2 : decide (0 < nl (x / 10 ^ m / 1000000000)) = true := by simp; omega
      clear hQ hnQ hor
      go_wp2_with (first
       | (at_builtin; go_loud (refine wpList_append_own_at _ rfl (.tmp 31) (.tmp 36) 42 rfl w.heap.size 5 i0 (.int .u8 0) 1 1 Tryz.underlying42 hi hz0 hz1 hz2 rfl (by decide) (.slice va (m + i) vk) (m + i) (tcs x (m + i)) rfl (OW.out.alloc _) ⟨wr.heap.size, 0, none⟩ 1 1 [.int .u8 (48 + (dd : Nat))] rfl rfl (new1 _ _ _) (one1 _ rfl) HA1.out HA2.out HA3.out ?_; intro v' w3 hown hgrow _ hblk; have hbk := (OW.out.alloc (.cells #[.int .u8 (48 + (dd : Nat))] 5)).lt; have KW3 := Lib.hid ((KW.out.alloc KW.out.size _).grown hgrow HA3.out (fun kk e => (hbk kk e).1)); have HQ3 := Lib.hid (mag_grown HQ.out (fun k e => by rw [ownBlock_blk] at e ⊢; exact (HL.out k e).1) (.cells #[.int .u8 (48 + (dd : Nat))] 5) hgrow hbk); rw [← HDD.out, tcs_succ] at hown; obtain ⟨va', vk', rfl⟩ := own_shape hown; have OW3 := Lib.hid hown; have HL3 : Hid (∀ k, blk aq = some k → blk va' ≠ some k ∧ k ≤ w3.heap.size) := Lib.hid (far_grown HL.out hblk hgrow); clear hown hgrow hbk hblk)))
      go_roundw
      case rel => exact ⟨i + 1, r', va', vk', by omega, by go_num, rfl, hr'l, HR', by rfl, HQ3, OW3, Lib.hid (fun _ => HMR.out), HL3, KW3⟩
      case measure => simp [intOf]; omega
     ·have hQ0 : x / 10 ^ m / 1000000000 = 0 := Nat.eq_zero_of_not_pos hQ
      have hr0 : 0 < r := hor.resolve_left hQ
      have hnQ := (nl_pos (x / 10 ^ m / 1000000000))
      have t1 : decide ((0 : Int) < (nl (x / 10 ^ m / 1000000000) : Int)) = false := by simp; omega
      have t2 : decide (0 < nl (x / 10 ^ m / 1000000000)) = false := by simp; omega
      have t3 : decide ((0 : Int) < (r : Int)) = true := by simp; omega
      have t4 : decide (0 < r) = true := by simp; omega
      clear hQ hnQ hor hQ0
      go_wp2_with (first
       | (at_builtin; go_loud (refine wpList_append_own_at _ rfl (.tmp 31) (.tmp 36) 42 rfl w.heap.size 5 i0 (.int .u8 0) 1 1 Tryz.underlying42 hi hz0 hz1 hz2 rfl (by decide) (.slice va (m + i) vk) (m + i) (tcs x (m + i)) rfl (OW.out.alloc _) ⟨wr.heap.size, 0, none⟩ 1 1 [.int .u8 (48 + (dd : Nat))] rfl rfl (new1 _ _ _) (one1 _ rfl) HA1.out HA2.out HA3.out ?_; intro v' w3 hown hgrow _ hblk; have hbk := (OW.out.alloc (.cells #[.int .u8 (48 + (dd : Nat))] 5)).lt; have KW3 := Lib.hid ((KW.out.alloc KW.out.size _).grown hgrow HA3.out (fun kk e => (hbk kk e).1)); have HQ3 := Lib.hid (mag_grown HQ.out (fun k e => by rw [ownBlock_blk] at e ⊢; exact (HL.out k e).1) (.cells #[.int .u8 (48 + (dd : Nat))] 5) hgrow hbk); rw [← HDD.out, tcs_succ] at hown; obtain ⟨va', vk', rfl⟩ := own_shape hown; have OW3 := Lib.hid hown; have HL3 : Hid (∀ k, blk aq = some k → blk va' ≠ some k ∧ k ≤ w3.heap.size) := Lib.hid (far_grown HL.out hblk hgrow); clear hown hgrow hbk hblk)))
      go_roundw
      case rel => exact ⟨i + 1, r', va', vk', by omega, by go_num, rfl, hr'l, HR', by rfl, HQ3, OW3, Lib.hid (fun _ => HMR.out), HL3, KW3⟩
      case measure => simp [intOf]; omega
    ·have HD : Hid (x / 10 ^ m / 1000000000 = x / 10 ^ (m + i)) := Lib.hid (by
      refine done10 ?_
      rw [← HR.out]
      by_cases h9 : i < 9
      ·exact .inr ⟨h9, Nat.eq_zero_of_not_pos (fun q => hgo ⟨h9, .inl q⟩), Nat.eq_zero_of_not_pos (fun q => hgo ⟨h9, .inr q⟩)⟩
      ·left; omega)
     have HI : Hid (0 < i) := Lib.hid (by
      rcases Nat.eq_zero_or_pos i with rfl | h
      ·exfalso
       rw [Nat.pow_zero, Nat.div_one] at HR
       have h1 := HX.out
       have h2 := HR.out
       omega
      ·exact h)
     have HQ' : Hid (Mag wr (.slice aq (nl (x / 10 ^ (m + i))) cq) (x / 10 ^ (m + i))) := Lib.hid (by rw [← HD.out]; exact HQ.out)
     by_cases h9 : i < 9
     ·have hQ0 : x / 10 ^ m / 1000000000 = 0 := Nat.eq_zero_of_not_pos (fun q => hgo ⟨h9, .inl q⟩)
      have hr0 : r = 0 := Nat.eq_zero_of_not_pos (fun q => hgo ⟨h9, .inr q⟩)
      have hnQ := (nl_pos (x / 10 ^ m / 1000000000))
      have t1 : decide ((0 : Int) < (nl (x / 10 ^ m / 1000000000) : Int)) = false := by simp; omega
      have t2 : decide (0 < nl (x / 10 ^ m / 1000000000)) = false := by simp; omega
      have t3 : decide ((0 : Int) < (r : Int)) = false := by simp; omega
      have t4 : decide (0 < r) = false := by simp; omega
      clear hnQ hgo hQ0 hr0
      go_wp2
      go_roundw
      case rel => exact ⟨m + i, aq, cq, va, vk, by rw [HD.out], rfl, HQ', OW, HP, KW⟩
      case measure => have := HM9.out; have := HI.out; simp only; omega
     ·have t5 : decide ((i : Int) < 9) = false := by simp; omega
      have t6 : decide (i < 9) = false := by simp; omega
      clear hgo
      go_wp2
      go_roundw
      case rel => exact ⟨m + i, aq, cq, va, vk, by rw [HD.out], rfl, HQ', OW, HP, KW⟩
      case measure => have := HM9.out; have := HI.out; simp only; omega
  ·have hX0 : x / 10 ^ m = 0 := Nat.eq_zero_of_not_pos hX
   have hlt : x < 10 ^ m := (Nat.div_eq_zero_iff_lt (Nat.pow_pos (by omega))).1 hX0
   have hm0 : 0 < m := by
    rcases Nat.eq_zero_or_pos m with rfl | h
    ·have := H0.out; rw [Nat.pow_zero] at hlt; omega
    ·exact h
   have hL : Len10 x m := ⟨hlt, fun e => by have := H0.out; omega, fun _ => ⟨hm0, HP.out hm0⟩⟩
   have hn0 := (nl_pos (x / 10 ^ m))
   have t1 : decide ((0 : Int) < (nl (x / 10 ^ m) : Int)) = false := by simp; omega
   have t2 : decide (0 < nl (x / 10 ^ m)) = false := by simp; omega
   have hmK : m ≤ 10000000010 := by
    have h1 := pow_le_nl (HP.out hm0)
    have := HK.out
    omega
   obtain ⟨g, cap, F, rfl, hbg, hcap, hrow, hF⟩ := own_rowF OW.out hm0
   have HROW := Lib.hid hrow
   have HF := Lib.hid hF
   clear hn0 hX hX0 hlt hrow hF
   have hL := Lib.hid hL
   go_wp2_with (first
    | (go_at_call 151; go_loud ((with_reducible refine (reverse_any g cap m vk 5 F _ (fun i => 48 + ((d10 x i : Nat) : Int)) HROW.out HF.out hcap (by omega)).mono ?_); rintro e w5 ⟨rfl, hrow5, hb5⟩; obtain ⟨s, hs, hcv⟩ := conv_txt w5 g vk x m hL.out (fun i hi => by rw [hrow5.cell (by omega), if_pos hi, HF.out _ (by omega)]); have KW5 := Lib.hid (KW.out.trans (hb5.mono hbg)); have HS := Lib.hid hs; clear hs hrow5 hb5)))
   go_ret
   exact ⟨s, rfl, HS.out, KW5.out⟩
end Go.Proofs.YtolkchkedieppaaGreat
