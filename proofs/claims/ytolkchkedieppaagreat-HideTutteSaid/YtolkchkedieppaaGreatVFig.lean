/- Parse of the reference at the text of a fraction. -/
import Derived.Test.YtolkchkedieppaaGreatVPars2
import Derived.Test.YtolkchkedieppaaGreatVCurA
import Derived.Test.YtolkchkedieppaaGreatVPlainD
import Derived.Test.YtolkchkedieppaaGreatVQShp
import Derived.Test.YtolkchkedieppaaGreatVTurN
import Derived.Test.YtolkchkedieppaaGreatVRdC
import Derived.Test.YtolkchkedieppaaGreatVRLay
import Derived.Test.YtolkchkedieppaaGreatVPlainTz
import Derived.Test.YtolkchkedieppaaGreatVLivH
set_option linter.unusedVariables false
set_option linter.unusedSimpArgs false
namespace Go.Proofs.YtolkchkedieppaaGreat
open Go.RowKit
attribute [local go_sem ↓] Go.wp_at_zero Go.wp_at_succ
theorem slD_first (f : Nat → Nat) (L p : Nat) (hp : p < L) (h1 : f p = 47) (h2 : ∀ k, k < p → f k ≠ 47) : ∀ j, j ≤ L → L - j ≤ p → slD f L j = p
  | 0, _, h => by omega
  | j + 1, hj, h => by
    simp only [slD]
    split
    · rename_i h3
      rcases Nat.lt_or_ge (L - (j + 1)) p with h4 | h4
      · exact absurd h3 (h2 _ h4)
      · omega
    · rename_i h3
      exact slD_first f L p hp h1 h2 j (by omega) (by
        rcases Nat.lt_or_ge p (L - j) with h4 | h4
        · exfalso; apply h3; rw [show L - (j + 1) = p by omega]; exact h1
        · exact h4)
theorem slD_none (f : Nat → Nat) (L : Nat) (h2 : ∀ k, k < L → f k ≠ 47) : ∀ j, j ≤ L → slD f L j = L
  | 0, _ => rfl
  | j + 1, hj => by
    simp only [slD]
    rw [if_neg (h2 _ (by omega))]
    exact slD_none f L h2 j (by omega)
theorem bts_append {a b : ByteArray} {La Lb : Nat} {fa fb : Nat → Nat} (ha : Bts a La fa) (hb : Bts b Lb fb) : Bts (a ++ b) (La + Lb) (fun i => if i < La then fa i else fb (i - La)) := by
  refine ⟨by rw [ByteArray.size_append, ha.1, hb.1], fun i h => ?_⟩
  dsimp only
  rcases Nat.lt_or_ge i a.size with h1 | h1
  · rw [ByteArray.getElem_append_left h1, if_pos (by rw [← ha.1]; exact h1)]; exact ha.2 i h1
  · have h2 : i - a.size < b.size := by rw [ByteArray.size_append] at h; omega
    rw [ByteArray.getElem_append_right h1, if_neg (by rw [← ha.1]; omega), hb.2 _ h2, ha.1]
theorem bts_one (c : UInt8) : Bts ⟨#[c]⟩ 1 (fun _ => c.toNat) := ⟨rfl, fun i h => by
  have h1 : i = 0 := by have : i < 1 := h; omega
  subst h1; rfl⟩
theorem bts_cut {s : ByteArray} {L : Nat} {f g : Nat → Nat} (hs : Bts s L f) (i j : Nat) (hij : i ≤ j) (hj : j ≤ L) (hg : ∀ k, k < j - i → f (i + k) = g k) : Bts (s.extract i j) (j - i) g := by
  have hz : (s.extract i j).size = j - i := by rw [ByteArray.size_extract, hs.1, Nat.min_eq_left hj]
  refine ⟨hz, fun k h => ?_⟩
  rw [ByteArray.getElem_extract, hs.2 (i + k) (by rw [hs.1]; omega)]
  exact hg k (by omega)
theorem Bts.congr {s : ByteArray} {L : Nat} {f g : Nat → Nat} (hs : Bts s L f) (hg : ∀ k, k < L → f k = g k) : Bts s L g := ⟨hs.1, fun i h => by rw [hs.2 i h]; exact hg i (by rw [← hs.1]; exact h)⟩
/-- the text of p / d, as bytes: o bytes of sign, Lt digits, a slash and Lu digits -/
theorem parse_txt (s : ByteArray) (p : Int) (d : Nat) (w : World) (hs : FracTxt s p d) (hp : MaxD p.natAbs) (hD : MaxD d) (hd : 0 < d) (hg : Nat.gcd p.natAbs d = 1) :
    Calls Tryz.prog 126 #[.string s] w fun e w' => ∃ r, e = .returned (.tuple #[r, .bool true]) ∧ QIs w' r p ((d : Nat) : Int) 1000 ∧ Below w.heap.size w w' := by
  obtain ⟨t, ⟨Lt, hLt, hts, htb⟩, hcase⟩ := hs
  have bt : Bts t Lt (fun i => 48 + d10 p.natAbs (Lt - 1 - i)) := ⟨hts, htb⟩
  have okt := okD_txt hLt hp.lt
  have nut := numD_txt hLt
  have h4t : Lt ≤ 4000 := okt.2.1
  have hpos := hLt.pos
  rcases hcase with ⟨d1, hs⟩ | ⟨d1, u, ⟨Lu, hLu, hus, hub⟩, hs⟩
  · subst d1
    rcases (by omega : p < 0 ∨ 0 ≤ p) with hneg | hge
    · rw [if_pos hneg] at hs
      have b0 : Bts s (1 + Lt) _ := hs ▸ bts_append (bts_one 45) bt
      have b1 := bts_cut b0 1 (1 + Lt) (by omega) (Nat.le_refl _) (g := fun i => 48 + d10 p.natAbs (Lt - 1 - i)) (fun k hk => by
        rw [if_neg (by omega), show 1 + k - 1 = k by omega])
      rw [show 1 + Lt - 1 = Lt by omega] at b1
      have hsz : s.size = 1 + Lt := b0.1
      rw [← hsz] at b1
      have e1 : (s.extract 1 s.size).size = Lt := b1.1
      have hsl := slD_none (fun i => 48 + d10 p.natAbs (Lt - 1 - i)) Lt (fun k _ => (txt_no _ _ _).1) Lt (Nat.le_refl _)
      have b2 := bts_cut b1 0 Lt (Nat.zero_le _) (Nat.le_refl _) (g := fun i => 48 + d10 p.natAbs (Lt - 1 - i)) (fun k hk => by rw [Nat.zero_add])
      refine (parse_mn s (s.extract 1 s.size) ((s.extract 1 s.size).extract 0 Lt) (fun i => 48 + d10 p.natAbs (Lt - 1 - i)) (fun i => 48 + d10 p.natAbs (Lt - 1 - i)) Lt p.natAbs w (by omega) (by omega) ?_ rfl (by rw [e1]; exact b1) (by rw [e1]; exact hsl) rfl b2 okt nut (by omega) (by omega)).mono ?_
      · rw [b0.2 0 (by omega)]; rfl
      · rintro e w' ⟨r, rfl, hr, hb⟩
        refine ⟨r, rfl, ?_, hb⟩
        rw [show p = -((p.natAbs : Nat) : Int) by omega]
        simpa using hr
    · rw [if_neg (by omega)] at hs
      subst hs
      have hsl := slD_none (fun i => 48 + d10 p.natAbs (Lt - 1 - i)) Lt (fun k _ => (txt_no _ _ _).1) Lt (Nat.le_refl _)
      have b2 := bts_cut bt 0 Lt (Nat.zero_le _) (Nat.le_refl _) (g := fun i => 48 + d10 p.natAbs (Lt - 1 - i)) (fun k hk => by rw [Nat.zero_add])
      refine (parse_pn s (s.extract 0 Lt) (fun i => 48 + d10 p.natAbs (Lt - 1 - i)) (fun i => 48 + d10 p.natAbs (Lt - 1 - i)) Lt p.natAbs w (by omega) (fun h0 => ?_) (by rw [hts]; exact bt) (by rw [hts]; exact hsl) rfl b2 okt nut (by omega)).mono ?_
      · rw [bt.2 0 h0]; exact (txt_no _ _ _).2
      · rintro e w' ⟨r, rfl, hr, hb⟩
        refine ⟨r, rfl, ?_, hb⟩
        rw [show p = ((p.natAbs : Nat) : Int) by omega]
        simpa using hr
  · have bu : Bts u Lu (fun i => 48 + d10 d (Lu - 1 - i)) := ⟨hus, hub⟩
    have oku := okD_txt hLu hD.lt
    have nuu := numD_txt hLu
    have h4u : Lu ≤ 4000 := oku.2.1
    have btu := bts_append bt (bts_append (bts_one 47) bu)
    rcases (by omega : p < 0 ∨ 0 ≤ p) with hneg | hge
    · rw [if_pos hneg, ByteArray.append_assoc] at hs
      have b0 : Bts s (1 + (Lt + (1 + Lu))) _ := hs ▸ bts_append (bts_one 45) btu
      have hsz : s.size = 1 + (Lt + (1 + Lu)) := b0.1
      have b1 := bts_cut b0 1 (1 + (Lt + (1 + Lu))) (by omega) (Nat.le_refl _) (g := fun i => if i < Lt then 48 + d10 p.natAbs (Lt - 1 - i) else if i - Lt < 1 then 47 else 48 + d10 d (Lu - 1 - (i - Lt - 1))) (fun k hk => by
        rw [if_neg (by omega), show 1 + k - 1 = k by omega]
        rfl)
      rw [show 1 + (Lt + (1 + Lu)) - 1 = Lt + (1 + Lu) by omega, ← hsz] at b1
      have e1 : (s.extract 1 s.size).size = Lt + (1 + Lu) := b1.1
      have hsl := slD_first (fun i => if i < Lt then 48 + d10 p.natAbs (Lt - 1 - i) else if i - Lt < 1 then 47 else 48 + d10 d (Lu - 1 - (i - Lt - 1))) (Lt + (1 + Lu)) Lt (by omega) (by rw [if_neg (by omega), if_pos (by omega)]) (fun k hk => by rw [if_pos hk]; exact (txt_no _ _ _).1) (Lt + (1 + Lu)) (Nat.le_refl _) (by omega)
      have b2 := bts_cut b1 0 Lt (Nat.zero_le _) (by omega) (g := fun i => 48 + d10 p.natAbs (Lt - 1 - i)) (fun k hk => by rw [Nat.zero_add, if_pos (by omega)])
      have b3 := bts_cut b1 (Lt + 1) (Lt + (1 + Lu)) (by omega) (Nat.le_refl _) (g := fun i => 48 + d10 d (Lu - 1 - i)) (fun k hk => by rw [if_neg (by omega), if_neg (by omega), show Lt + 1 + k - Lt - 1 = k by omega])
      rw [show Lt + (1 + Lu) - (Lt + 1) = Lu by omega] at b3
      refine (parse_ms s (s.extract 1 s.size) ((s.extract 1 s.size).extract 0 Lt) ((s.extract 1 s.size).extract (Lt + 1) (Lt + (1 + Lu))) _ (fun i => 48 + d10 p.natAbs (Lt - 1 - i)) (fun i => 48 + d10 d (Lu - 1 - i)) Lt p.natAbs Lu d w (by omega) (by omega) ?_ rfl (by rw [e1]; exact b1) (by rw [e1]; exact hsl) rfl b2 okt nut (by omega) (by rw [e1]) b3 oku nuu (by omega) hg (by omega)).mono ?_
      · rw [b0.2 0 (by omega)]; rfl
      · rintro e w' ⟨r, rfl, hr, hb⟩
        refine ⟨r, rfl, ?_, hb⟩
        rw [show p = -((p.natAbs : Nat) : Int) by omega]
        simpa using hr
    · rw [if_neg (by omega)] at hs
      have b1 : Bts s (Lt + (1 + Lu)) (fun i => if i < Lt then 48 + d10 p.natAbs (Lt - 1 - i) else if i - Lt < 1 then 47 else 48 + d10 d (Lu - 1 - (i - Lt - 1))) := hs ▸ btu
      have hsz : s.size = Lt + (1 + Lu) := b1.1
      have hsl := slD_first (fun i => if i < Lt then 48 + d10 p.natAbs (Lt - 1 - i) else if i - Lt < 1 then 47 else 48 + d10 d (Lu - 1 - (i - Lt - 1))) (Lt + (1 + Lu)) Lt (by omega) (by rw [if_neg (by omega), if_pos (by omega)]) (fun k hk => by rw [if_pos hk]; exact (txt_no _ _ _).1) (Lt + (1 + Lu)) (Nat.le_refl _) (by omega)
      have b2 := bts_cut b1 0 Lt (Nat.zero_le _) (by omega) (g := fun i => 48 + d10 p.natAbs (Lt - 1 - i)) (fun k hk => by rw [Nat.zero_add, if_pos (by omega)])
      have b3 := bts_cut b1 (Lt + 1) (Lt + (1 + Lu)) (by omega) (Nat.le_refl _) (g := fun i => 48 + d10 d (Lu - 1 - i)) (fun k hk => by rw [if_neg (by omega), if_neg (by omega), show Lt + 1 + k - Lt - 1 = k by omega])
      rw [show Lt + (1 + Lu) - (Lt + 1) = Lu by omega] at b3
      refine (parse_ps s (s.extract 0 Lt) (s.extract (Lt + 1) (Lt + (1 + Lu))) _ (fun i => 48 + d10 p.natAbs (Lt - 1 - i)) (fun i => 48 + d10 d (Lu - 1 - i)) Lt p.natAbs Lu d w (by omega) (fun h0 => ?_) (by rw [hsz]; exact b1) (by rw [hsz]; exact hsl) rfl b2 okt nut (by omega) (by rw [hsz]) b3 oku nuu (by omega) hg).mono ?_
      · rw [b1.2 0 h0]; dsimp only; rw [if_pos (by omega)]; exact (txt_no _ _ _).2
      · rintro e w' ⟨r, rfl, hr, hb⟩
        refine ⟨r, rfl, ?_, hb⟩
        rw [show p = ((p.natAbs : Nat) : Int) by omega]
        simpa using hr
end Go.Proofs.YtolkchkedieppaaGreat

/- The reference's reading of the texts of numbers: Valid, Of, Nums, Qs; nums of the laws. -/
namespace Go.Proofs.YtolkchkedieppaaGreat
open Go.RowKit
attribute [local go_sem ↓] Go.wp_at_zero Go.wp_at_succ
/-- a text of the number q, of at most 4000 digits in each part -/
structure TxtQ (s : ByteArray) (q : Rat) : Prop where
  txt : FracTxt s q.num q.den
  mn : MaxD q.num.natAbs
  md : MaxD q.den
theorem parse_q (s : ByteArray) (q : Rat) (w : World) (h : TxtQ s q) :
    Calls Tryz.prog 126 #[.string s] w fun e w' => ∃ s1 a n c t b l k, e = .returned (.tuple #[.agg #[.bool s1, .slice a n c, .bool t, .slice b l k], .bool true]) ∧ Hid (QIs w' (.agg #[.bool s1, .slice a n c, .bool t, .slice b l k]) q.num ((q.den : Nat) : Int) 1000) ∧ Hid (Below w.heap.size w w') := by
  refine (parse_txt s q.num q.den w h.txt h.mn h.md q.den_pos q.reduced).mono ?_
  rintro e w' ⟨r, rfl, hr, hb⟩
  obtain ⟨s1, a, n, c, t, b, l, k, rfl, -, -, -⟩ := hr.shape
  exact ⟨s1, a, n, c, t, b, l, k, rfl, Lib.hid hr, Lib.hid hb⟩
set_option maxHeartbeats 1000000 in
theorem valid_any (s : ByteArray) (q : Rat) (w : World) (h : TxtQ s q) :
    Calls Tryz.prog 91 #[.string s] w fun e w' => e = .returned (.bool true) ∧ Below w.heap.size w w' := by
  have H := Lib.hid h
  clear h
  go_enter Tryz.func91, Tryz.ntmps91
  go_wp2_with (go_at_call 126; (with_reducible refine (parse_q s q _ H.out).mono ?_); rintro e w1 ⟨s1, a, n, c, t, b, l, k, rfl, HQ, KW⟩)
  go_ret
  exact ⟨rfl, KW.out.alloc KW.out.size _⟩
/-- texts of n numbers in memory -/
def Strs (w : World) (v : Value) (n : Nat) (ss : Nat → ByteArray) : Prop := Sl w v n (fun j => .string (ss j))
theorem num_s : Tryz.prog.underlying 49 = some (.slice (Tryz.prog.elem 49)) := by kernel_rfl
theorem num_z (W : World) : (sizeOf (Tryz.prog.elem 49)).run Tryz.prog W = .ok 1 W := by kernel_rfl
theorem ixN {w : World} {a : Option Addr} {b o c n : Nat} {g : Nat → Value} (h : IsSl w a b o c n g) (i d : Nat) (hi : i < n) (W : World) :
   (Instr.indexAt 49 (.slice a n d) (.int .i64 (i : Int))).run Tryz.prog W = .ok (.pointer (some ⟨b, o + i, none⟩)) W :=
  run_indexAt_opt 49 num_s num_z a b o n d (fun q => h.at_ q) .i64 i (by omega) (by omega) W
structure TxtQs (n : Nat) (q : Nat → Rat) (ss : Nat → ByteArray) : Prop where
  txt : ∀ j, j < n → TxtQ (ss j) (q j)
set_option maxHeartbeats 1000000 in
theorem rnums_any (v : Value) (n : Nat) (q : Nat → Rat) (ss : Nat → ByteArray) (w : World) (hv : Strs w v n ss) (hn : n ≤ 1000) (hq : TxtQs n q ss) :
    Calls Tryz.prog 34 #[v] w fun e w' => e = .returned (.int .i64 0) ∧ Below w.heap.size w w' := by
  obtain ⟨a, b, o, c, rfl, hs⟩ := hv
  have HS := Lib.hid hs
  have HQ := Lib.hid hq
  have KW0 := Lib.hid (Below.refl w.heap.size w)
  clear hs hq
  go_enter Tryz.func34, Tryz.ntmps34
  go_wp2
  go_loopw [3] (fun v3 wr => ∃ k : Nat, k ≤ n ∧ v3 = .int .i64 (k : Nat) ∧ Hid (Below w.heap.size w wr)) (fun v3 _ => n - (intOf v3).toNat)
  case atStart => exact ⟨0, by omega, rfl, KW0⟩
  case round =>
    clear KW0
    obtain ⟨k, hk, rfl, KW⟩ := hrel
    by_cases h : k < n
    · have x0 := (HS.out.mono KW.out (Nat.le_refl _)).cell k h
      have ix := fun W => ixN HS.out k c h W
      go_wp2_with (go_at_call 91; (with_reducible refine (valid_any _ (q k) _ (HQ.out.txt k h)).mono ?_); rintro e w2 ⟨rfl, hb2⟩; have KW2 := Lib.hid (KW.out.trans (hb2.mono KW.out.size)); clear hb2)
      go_roundw
      case rel => exact ⟨k + 1, by omega, by go_num, KW2⟩
      case measure => simp [intOf]; omega
    · obtain rfl : k = n := by omega
      go_wp2
      go_ret
      exact ⟨rfl, KW.out⟩
end Go.Proofs.YtolkchkedieppaaGreat

/- Network, Currents and Resistance of a cut, in one shape; the reference's Lay of a cut. -/
namespace Go.Proofs.YtolkchkedieppaaGreat
open Go.RowKit
theorem pairRow2 {w : World} {base n : Nat} {va : Option Addr} {vk : Nat} {P : List (Int × Int)} (h : w.ownsRow base 40 2 (.slice va n vk) n (prL P)) (hl : P.length = n) (h0 : 0 < n) :
    ∃ g, va = some ⟨g, 0, none⟩ ∧ PrR w g 0 P ∧ g < w.heap.size := by
  subst hl
  obtain ⟨g, c, hv, _, _⟩ := h.form (by omega)
  injection hv with u1 u2 u3
  subst u1; subst u3
  exact ⟨g, rfl, prR_own h⟩
theorem net_mk {B : Nat} (v : Value) (L : List Tr) (W H : Nat) (w : World) (hv : OwS B w v L) (hm : MkC L W H) (hn : L.length ≤ 24) :
    Calls Tryz.prog 20 #[v] w fun e w' => ∃ g vk S J, NetP S J W H ∧ L.Perm S ∧ S.Pairwise (fun a b => ¬ ltS b a) ∧ S.length = L.length ∧
      e = .returned (.tuple #[.int .i64 (J.length : Nat), .slice (some ⟨g, 0, none⟩) L.length vk, .int .i64 0]) ∧ PrR w' g 0 (netW S J) ∧ g < w'.heap.size ∧ Below w.heap.size w w' := by
  refine (network_mk v L W H w hv hm hn).mono ?_
  rintro e w' ⟨va, vk, S, J, hp, hs, hc, _, rfl, ho, hb⟩
  have hl := hp.length_eq
  obtain ⟨g, rfl, h1, h2⟩ := pairRow2 ho (netF_len S J S.length) (by rw [← hl]; exact hm.pos)
  exact ⟨g, vk, S, J, ⟨hm.perm hp, by omega, hc.congr (fun y x => edge_perm hp y x)⟩, hp, hs, hl.symm, by rw [hl], h1, h2, hb⟩
theorem strs_own2 {w : World} {base n : Nat} {v : Value} {ss : Nat → ByteArray} (h : w.ownsRow base 52 1 v n (strL ss n)) (h0 : 0 < n) : Strs w v n ss := by
  obtain ⟨b, c, rfl, hb, hl⟩ := h.form h0
  exact ⟨_, b, 0, c, rfl, ⟨own_cap h, fun _ => rfl, fun _ => (h.lt b rfl).2, fun i hi => by rw [Nat.zero_add, h.cellAt i (by omega)]; exact strL_get ss n i hi, fun e => by cases e⟩⟩
theorem cur_mk (n : Nat) (S J : List Tr) (W H g c : Nat) (w : World) (h : NetP S J W H) (hn : S.length = n) (hW : PrR w g 0 (netW S J)) (hg : g < w.heap.size) :
    Calls Tryz.prog 25 #[.int .i64 (J.length : Nat), .slice (some ⟨g, 0, none⟩) n c] w fun e w' => ∃ va vk ss, e = .returned (.tuple #[.slice va n vk, .int .i64 0]) ∧
      TxtQs n (tutQ S) ss ∧ Strs w' (.slice va n vk) n ss ∧ Below w.heap.size w w' := by
  subst hn
  refine (currents_mk S J W H g c w h hW hg).mono ?_
  rintro e w' ⟨va, vk, ss, rfl, ht, ho, hb⟩
  have hx := h.frc
  exact ⟨va, vk, ss, rfl, ⟨fun j hj => ⟨ht.txt j hj, by
    have hc : (S.getD j default).c.toNat ≤ 1000 := (hx.c1 j hj).2
    unfold tutQ
    rw [Rat.num_intCast, Int.natAbs_natCast]
    exact maxD_of (e := 4) (Nat.lt_of_le_of_lt (Nat.div_le_self _ _) (by omega)) (by decide), by
    unfold tutQ
    rw [Rat.den_intCast]
    exact maxD_1⟩⟩, strs_own2 ho h.m.pos, hb⟩
theorem res_mk (n : Nat) (S J : List Tr) (W H g c : Nat) (w : World) (h : NetP S J W H) (hn : S.length = n) (hW : PrR w g 0 (netW S J)) (hg : g < w.heap.size) :
    Calls Tryz.prog 26 #[.int .i64 (J.length : Nat), .slice (some ⟨g, 0, none⟩) n c] w fun e w' => ∃ s, e = .returned (.tuple #[.string s, .int .i64 0]) ∧
      FracTxt s (((H : Nat) : Rat) / ((W : Nat) : Rat)).num (((H : Nat) : Rat) / ((W : Nat) : Rat)).den ∧ Below w.heap.size w w' := by
  subst hn
  exact resistance_mk S J W H g c w h hW hg
theorem net_n {B : Nat} (v : Value) (L : List Tr) (W H n : Nat) (w : World) (hv : OwS B w v L) (hm : MkC L W H) (hl : L.length = n) (hn : n ≤ 24) :
    Calls Tryz.prog 20 #[v] w fun e w' => ∃ g vk S J, NetP S J W H ∧ L.Perm S ∧ S.Pairwise (fun a b => ¬ ltS b a) ∧ S.length = n ∧
      e = .returned (.tuple #[.int .i64 (J.length : Nat), .slice (some ⟨g, 0, none⟩) n vk, .int .i64 0]) ∧ PrR w' g 0 (netW S J) ∧ g < w'.heap.size ∧ Below w.heap.size w w' := by
  subst hl
  exact net_mk v L W H w hv hm hn
theorem code_n {B : Nat} (v : Value) (L S : List Tr) (W H n : Nat) (w : World) (hv : OwS B w v L) (hm : MkC L W H) (hl : L.length = n) (hn : n ≤ 24) (hp : L.Perm S) (hs : S.Pairwise (fun a b => ¬ ltS b a)) :
    Calls Tryz.prog 35 #[v] w fun e w' => ∃ va vk, e = .returned (.slice va n vk) ∧ Ints w' (.slice va n vk) n (eF (szL S)) ∧ Below w.heap.size w w' := by
  subst hl
  refine (rcode_mk v L S W H w hv hm hn hp hs).mono ?_
  rintro e w' ⟨va, vk, rfl, hi, hb⟩
  rw [szL_len, ← hp.length_eq] at hi ⊢
  exact ⟨va, vk, rfl, hi, hb⟩
/-- the sizes as whole numbers -/
def szC (S : List Tr) (k : Nat) : Nat := (S.getD k default).c.toNat
theorem szC_eF {S : List Tr} {k : Nat} (h : k < S.length) : eF (szL S) k = ((szC S k : Nat) : Int) := by
  unfold eF szC
  rw [szL_get h]
theorem gC_le {c : Nat → Nat} {m : Nat} (h : ∀ k, k < m → c k ≤ 1000 ∧ 1 ≤ c k) : ∀ i, i ≤ m → gC c i ≤ 1000
  | 0, _ => by simp [gC]
  | i + 1, hi => by
    have h1 := h i (by omega)
    have := Nat.le_of_dvd h1.2 (Nat.gcd_dvd_right (gC c i) (c i))
    show Nat.gcd (gC c i) (c i) ≤ 1000
    omega
theorem rlay_mk (v : Value) (S : List Tr) (W H : Nat) (w : World) (hv : Ints w v (szL S).length (eF (szL S))) (hm : MkC S W H) (hn : S.length ≤ 24) (hs : S.Pairwise (fun a b => ¬ ltS b a)) :
    Calls Tryz.prog 16 #[.int .i64 (W : Nat), v] w fun e w' => ∃ va vk, e = .returned (.tuple #[.slice va S.length vk, .bool true]) ∧ OwS w.heap.size w' (.slice va S.length vk) S ∧ Below w.heap.size w w' := by
  obtain ⟨F, h1, h2⟩ := code_lays (hm.cut hn) hs hm.wd
  refine (rlay_any v W (szL S) w hv hm.w1 hm.wb (by rw [szL_len]; exact hn) hm.sz).mono ?_
  rintro e w' ⟨⟨out, F2, h3, h4, va, vk, rfl, ho⟩ | ⟨h3, _⟩, hb⟩
  · rw [h1] at h3
    injection h3 with h3
    injection h3 with h5 h6
    subst h5
    rw [sqL_trL, hm.sqT, List.length_map] at ho
    exact ⟨va, vk, by rw [List.length_map], ows_of ho hm.pos, hb⟩
  · exact absurd h2 (h3 _ _ h1)
theorem hw_maxD {L : List Tr} {W H : Nat} (h : MkC L W H) : MaxD (((H : Nat) : Rat) / ((W : Nat) : Rat)).num.natAbs ∧ MaxD (((H : Nat) : Rat) / ((W : Nat) : Rat)).den := by
  have hlow := lowest_le (w := ((H : Nat) : Rat) / ((W : Nat) : Rat)) (p := (H : Int)) (q := (W : Int)) (by have := h.w1; omega) (by
    have := Rat.inv_mul_cancel _ (natQ_ne h.w1)
    have e1 : (((W : Nat) : Int) : Rat) = ((W : Nat) : Rat) := rfl
    have e2 : (((H : Nat) : Int) : Rat) = ((H : Nat) : Rat) := rfl
    rw [e1, e2, Rat.div_def]; grind)
  exact ⟨maxD_of (e := 4) (by have := h.hb; omega) (by decide), maxD_of (e := 4) (by have := h.wb; omega) (by decide)⟩
/-- the perfect cut of nine squares -/
def S9 : List Tr := [⟨0, 0, 18⟩, ⟨18, 0, 14⟩, ⟨18, 14, 4⟩, ⟨22, 14, 10⟩, ⟨0, 18, 15⟩, ⟨15, 18, 7⟩, ⟨22, 24, 1⟩, ⟨23, 24, 9⟩, ⟨15, 25, 8⟩]
theorem s9_mk : MkC S9 32 33 := by
  refine ⟨by decide, by decide, by decide, by decide, by decide, ?_, ?_, by decide, ⟨⟨18, 0, 14⟩, by simp [S9], by decide⟩, ⟨⟨0, 18, 15⟩, by simp [S9], by decide⟩⟩
  · intro t ht
    simp only [S9, List.mem_cons, List.not_mem_nil, or_false] at ht
    rcases ht with rfl | rfl | rfl | rfl | rfl | rfl | rfl | rfl | rfl <;> decide
  · unfold S9
    decide
theorem s9_sorted : S9.Pairwise (fun a b => ¬ ltS b a) := by
  unfold S9
  decide
theorem lay9 (v : Value) (w : World) (hv : Ints w v 9 (eF L9)) : Calls Tryz.prog 16 #[.int .i64 32, v] w fun e w' => ∃ va vk, e = .returned (.tuple #[.slice va 9 vk, .bool true]) ∧ OwS w.heap.size w' (.slice va 9 vk) S9 ∧ Below w.heap.size w w' :=
  rlay_mk v S9 32 33 w hv s9_mk (by decide) s9_sorted
theorem turned9 {B : Nat} (v : Value) (w : World) (hv : OwS B w v S9) : Calls Tryz.prog 33 #[v] w fun e w' => ∃ va vk, e = .returned (.slice va 9 vk) ∧ OwS w.heap.size w' (.slice va 9 vk) (S9.map swT) ∧ Below w.heap.size w w' :=
  turned_mk v S9 w hv (by decide) (by decide)
theorem s9t_mk : MkC (S9.map swT) 33 32 := s9_mk.swap
theorem s9x_mk : MkC (S9.map swT ++ [⟨33, 0, 32⟩]) 65 32 := by
  have h : MkC (S9.map swT) 33 (32 * 1) := s9t_mk
  exact h.right (by decide) (by decide) (by decide)
end Go.Proofs.YtolkchkedieppaaGreat

/- figures of the reference: the decimal digits of a number. -/
namespace Go.Proofs.YtolkchkedieppaaGreat
open Go.RowKit
attribute [local go_sem ↓] Go.wp_at_zero Go.wp_at_succ
theorem conv_bts (W : World) (g c x L : Nat) (h : ∀ i, i < L → W.cell? ⟨g, i, none⟩ = some (.int .u8 (48 + (d10 x (L - 1 - i) : Nat)))) :
    ∃ s, Bts s L (fun i => 48 + d10 x (L - 1 - i)) ∧ (convert 42 9 (.slice (some ⟨g, 0, none⟩) L c)).run Tryz.prog W = .ok (.string s) W := by
  refine ⟨((List.range L).map (fun i => 48 + ((d10 x (L - 1 - i) : Nat) : Int))).foldl (fun r n => r.push (UInt8.ofNat n.toNat)) ByteArray.empty, ?_, ?_⟩
  rotate_left
  · rw [run_convert_bytes_string W 42 9 5 _ _ _ Tryz.underlying42 Tryz.underlying5 Tryz.underlying9,
      run_bytesToString W ⟨g, 0, none⟩ L c ((List.range L).map (fun i => 48 + (d10 x (L - 1 - i) : Nat))) ?_]
    have hl := run_loadCells_list (P := Tryz.prog) W ⟨g, 0, none⟩ (((List.range L).map (fun i => 48 + ((d10 x (L - 1 - i) : Nat) : Int))).map (Value.int .u8)) (fun j v hv => by
      have hj : j < L := by
        have := (List.getElem?_eq_some_iff.1 hv).1
        simpa using this
      simp [hj] at hv
      subst hv
      rw [add_at, Nat.zero_add]
      exact h j hj)
    simpa using hl
  · have hp := foldl_push ((List.range L).map (fun i => 48 + ((d10 x (L - 1 - i) : Nat) : Int))) ByteArray.empty
    generalize (List.map (fun i => 48 + ((d10 x (L - 1 - i) : Nat) : Int)) (List.range L)).foldl (fun r n => r.push (UInt8.ofNat n.toNat)) ByteArray.empty = s at *
    have hs : s.data.size = L := by
      have h2 := congrArg List.length hp
      rw [Array.length_toList] at h2
      rw [h2, List.length_append, List.length_map, List.length_map, List.length_range]
      exact Nat.zero_add L
    refine ⟨hs, fun i hi => ?_⟩
    have hi2 : i < s.data.size := hi
    have h3 : s.data.toList[i]? = some (UInt8.ofNat (48 + d10 x (L - 1 - i))) := by
      rw [hp, show ByteArray.empty.data.toList = [] from rfl, List.nil_append, List.getElem?_map, List.getElem?_map, List.getElem?_range (by omega)]
      rfl
    have h4 : s.data.toList[i]? = some (s[i]) := by
      rw [Array.getElem?_toList, Array.getElem?_eq_getElem hi2]; rfl
    rw [h3] at h4
    rw [← Option.some.inj h4, UInt8.toNat_ofNat']
    have := d10_lt x (L - 1 - i)
    show (48 + d10 x (L - 1 - i)) % 2 ^ 8 = 48 + d10 x (L - 1 - i)
    omega
theorem d10_div (x e : Nat) : d10 (x / 10000) e = d10 x (e + 4) := by
  unfold d10
  rw [Nat.div_div_eq_div_mul, Nat.pow_add, Nat.mul_comm (10 ^ e), show 10 ^ 4 = 10000 from rfl]
theorem d10_mod (x e : Nat) (he : e < 4) : d10 (x % 10000) e = d10 x e := by
  unfold d10
  match e, he with
  | 0, _ => omega
  | 1, _ => omega
  | 2, _ => omega
  | 3, _ => omega
/-- the digits of x above place j of four digits each -/
def figB (x N j : Nat) (i : Nat) : Nat := 48 + d10 (x / 10000 ^ j) (4 * (N - j) - 1 - i)
theorem figB_step {a b : ByteArray} {x N j : Nat} (hj : j + 1 ≤ N) (ha : Bts a (4 * (N - (j + 1))) (figB x N (j + 1))) (hb : Bts b 4 (fun i => 48 + d10 (dg x j) (4 - 1 - i))) : Bts (a ++ b) (4 * (N - j)) (figB x N j) := by
  have h := bts_append ha hb
  have e : 4 * (N - (j + 1)) + 4 = 4 * (N - j) := by omega
  rw [e] at h
  refine h.congr (fun k hk => ?_)
  split
  · rename_i h1
    unfold figB
    congr 1
    rw [Nat.pow_succ, ← Nat.div_div_eq_div_mul, d10_div]
    congr 1
    omega
  · rename_i h1
    unfold figB
    congr 1
    have e2 : dg x j = x / 10000 ^ j % 10000 := rfl
    rw [e2, d10_mod _ _ (by omega)]
    congr 1
    omega
theorem bts_txt {s : ByteArray} {x L : Nat} (h : Bts s L (fun i => 48 + d10 x (L - 1 - i))) (hL : Len10 x L) : IsTxt s x := ⟨L, hL, h.1, fun i hi => h.2 i hi⟩
set_option maxHeartbeats 2000000 in
set_option maxRecDepth 100000 in
theorem figures_any (s : Bool) (u : Value) (x : Nat) (w : World) (hu : Dg w u x) (hn : nd x ≤ 100000000) :
    Calls Tryz.prog 131 #[.agg #[.bool s, u]] w fun e w' => ∃ t, e = .returned (.string t) ∧ IsTxt t x ∧ Below w.heap.size w w' := by
  obtain ⟨a, b, o, c, rfl, hs⟩ := hu
  have HS := Lib.hid hs
  clear hs
  have KW0 := Lib.hid (boxes1 w (.cells #[.bool s, .slice a (nd x) c] 57))
  have O1 := Lib.hid (own2_new w w.heap.size rfl (.bool s) (.slice a (nd x) c) 57)
  have hpos := nd_pos x
  rcases Nat.eq_zero_or_pos x with h0 | h0
  · subst h0
    have e0 : nd 0 = 0 := nd_zero
    rw [e0] at KW0 O1 ⊢
    clear hpos e0 O1
    go_enter Tryz.func131, Tryz.ntmps131
    go_wp2
    go_ret
    exact ⟨_, rfl, isTxt_zero, KW0.out⟩
  · have hN0 : 0 < nd x := hpos.2 h0
    obtain ⟨N, hN⟩ : ∃ N, N = nd x := ⟨_, rfl⟩
    have HN := Lib.hid hN
    have HX := Lib.hid h0
    rw [← hN] at HS KW0 O1 hN0 hn ⊢
    clear hpos hN h0
    have d0 : ((N : Int) == 0) = false := by simp; omega
    have d0n : ¬ N = 0 := by omega
    have S0 : Hid (Bts ByteArray.empty (4 * (N - N)) (figB x N N)) := Lib.hid ⟨by simp, fun i hi => by simp at hi⟩
    go_enter Tryz.func131, Tryz.ntmps131
    go_wp2
    clear d0 d0n
    go_loopw [3, 4, 5, 6] (fun v3 v4 v5 v6 wr => ∃ j : Nat, j ≤ N ∧ v4 = .int .i64 ((j : Int) - 1) ∧ ∃ t, v3 = .string t ∧ Hid (Bts t (4 * (N - j)) (figB x N j)) ∧ Hid (Below w.heap.size w wr) ∧ Hid (Own2 wr w.heap.size (.bool s) (.slice a N c))) (fun _ v4 _ _ _ => (intOf v4 + 1).toNat)
    case atStart => exact ⟨N, by omega, by simp, _, rfl, S0, KW0, O1⟩
    case round =>
      clear S0 KW0 O1
      obtain ⟨j, hj, rfl, t, rfl, HT, KW, O1⟩ := hrel
      have y1 := O1.out.c1
      by_cases h : 0 < j
      · obtain ⟨i, rfl⟩ : ∃ i, j = i + 1 := ⟨j - 1, by omega⟩
        have hiN : i < N := by omega
        have e0 : ((i + 1 : Nat) : Int) - 1 = (i : Int) := by omega
        rw [e0]
        have ix := fun W => ixI HS.out i c hiN W
        have y2 := (HS.out.mono KW.out (Nat.le_refl _)).cell i hiN
        simp only [ic, dI] at y2
        obtain ⟨m, hm⟩ : ∃ m, m = dg x i := ⟨_, rfl⟩
        have hml : m < 10000 := by rw [hm]; exact dg_lt x i
        have HM := Lib.hid hm
        rw [← hm] at y2
        obtain ⟨t4, ht4, hcv⟩ := conv_bts (wr.alloc (.cells #[.int .u8 (48 + (m : Int) / 1000), .int .u8 (48 + (m : Int) / 100 % 10), .int .u8 (48 + (m : Int) / 10 % 10), .int .u8 (48 + (m : Int) % 10)] 5)) wr.heap.size 4 m 4 (fun i hi => by
          match i, hi with
          | 0, _ => simp [go_sem, d10]; omega
          | 1, _ => simp [go_sem, d10]
          | 2, _ => simp [go_sem, d10]
          | 3, _ => simp [go_sem, d10])
        have hsz : ¬ (9223372036854775807 < t.size + t4.size) := by rw [HT.out.1, ht4.1]; omega
        have HT4 := Lib.hid ht4
        have KW1 := Lib.hid (KW.out.alloc KW.out.size (.cells #[.int .u8 (48 + (m : Int) / 1000), .int .u8 (48 + (m : Int) / 100 % 10), .int .u8 (48 + (m : Int) / 10 % 10), .int .u8 (48 + (m : Int) % 10)] 5))
        have O2 := Lib.hid (O1.out.alloc (.cells #[.int .u8 (48 + (m : Int) / 1000), .int .u8 (48 + (m : Int) / 100 % 10), .int .u8 (48 + (m : Int) / 10 % 10), .int .u8 (48 + (m : Int) % 10)] 5))
        clear h e0 hm ht4
        go_wp2
        go_roundw
        case rel => exact ⟨i, by omega, by go_num, _, rfl, Lib.hid (figB_step (by omega) HT.out (by rw [← HM.out]; exact HT4.out)), KW1, O2⟩
        case measure => (simp [intOf] <;> omega)
      · obtain rfl : j = 0 := by omega
        have HT2 : Hid (Bts t (4 * N) (fun i => 48 + d10 x (4 * N - 1 - i))) := Lib.hid (HT.out.congr (fun k _ => by unfold figB; simp))
        have HLT : Hid (x < 10 ^ (4 * N)) := Lib.hid (by
          have := lt_pow_nd x
          rw [← HN.out] at this
          rw [Nat.pow_mul]; exact this)
        have e0 : decide ((0 : Int) ≤ ((0 : Nat) : Int) - 1) = false := by decide
        clear HT h y1 O1
        go_wp2
        go_loopw [3] (fun v3 wr' => ∃ t L, v3 = .string t ∧ Hid (Bts t L (fun i => 48 + d10 x (L - 1 - i))) ∧ Hid (x < 10 ^ L) ∧ L ≤ 4 * N ∧ wr' = wr) (fun v3 _ => match v3 with | .string t => t.size | _ => 0)
        case atStart => exact ⟨t, 4 * N, rfl, HT2, HLT, by omega, rfl⟩
        case round =>
          clear HT2 HLT
          obtain ⟨t, L, rfl, HT2, HLT, hLN, rfl⟩ := hrel
          have hL1 : 1 ≤ L := by
            rcases Nat.eq_zero_or_pos L with e | e
            · have h1 := HLT.out; have h2 := HX.out; rw [e] at h1; simp at h1; omega
            · exact e
          have p0 : 0 < t.size := by rw [HT2.out.1]; exact hL1
          have i0 : (0 : Int) < (t.size : Int) := by omega
          have hx0 : t[0].toNat = 48 + d10 x (L - 1) := HT2.out.2 0 p0
          by_cases hz : d10 x (L - 1) = 0
          · have x0 : t[0].toNat = 48 := by rw [hx0, hz]
            have e3 : (((48 : Nat) : Int) == 48) = true := by decide
            have HC : Hid (Bts (t.extract 1 t.size) (L - 1) (fun i => 48 + d10 x (L - 1 - 1 - i))) := Lib.hid (by
              have := bts_cut (g := fun i => 48 + d10 x (L - 1 - 1 - i)) HT2.out 1 t.size p0 (by rw [HT2.out.1]; exact Nat.le_refl _) (fun k hk => by
                show 48 + d10 x (L - 1 - (1 + k)) = 48 + d10 x (L - 1 - 1 - k)
                rw [Nat.sub_sub (L - 1) 1 k])
              rw [HT2.out.1] at this ⊢
              exact this)
            have HL2 : Hid (x < 10 ^ (L - 1)) := Lib.hid (by
              have h1 := HLT.out
              unfold d10 at hz
              have h2 : 10 ^ L = 10 ^ (L - 1) * 10 := by rw [← Nat.pow_succ]; congr 1; omega
              rw [h2] at h1
              have h3 := Nat.div_lt_of_lt_mul h1
              rw [Nat.mod_eq_of_lt h3] at hz
              have hp : 0 < 10 ^ (L - 1) := Nat.pow_pos (by omega)
              exact Nat.lt_of_not_le (fun hle => by have := Nat.div_pos hle hp; omega))
            have HSZ := Lib.hid HT2.out.1
            have s1 : (1 : Int) ≤ (t.size : Int) := by omega
            clear hx0 hz
            go_wp2
            go_roundw
            case rel => exact ⟨_, L - 1, rfl, HC, HL2, by omega, by first | rfl | trivial⟩
            case measure => simp only; rw [HC.out.1, HSZ.out]; omega
          · obtain ⟨V, hV⟩ : ∃ V, V = 48 + d10 x (L - 1) := ⟨_, rfl⟩
            have x0 : t[0].toNat = V := by rw [hx0, hV]
            have e3 : ((V : Int) == 48) = false := by simp; omega
            have e4 : ¬ V = 48 := by omega
            have HF : Hid (IsTxt t x) := Lib.hid (bts_txt HT2.out ⟨HLT.out, fun e => by have := HX.out; omega, fun _ => ⟨hL1, by
              refine Nat.le_of_not_lt (fun hlt => hz ?_)
              unfold d10
              rw [Nat.div_eq_of_lt hlt]⟩⟩)
            clear hx0 hz hV
            go_wp2
            go_ret
            exact ⟨t, rfl, HF.out, KW.out⟩
end Go.Proofs.YtolkchkedieppaaGreat
