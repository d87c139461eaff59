/- Parse of the reference at the text of a fraction. -/
import Derived.Test.YtdfkhbflcacbfaaGreatVPars2
import Derived.Test.YtdfkhbflcacbfaaGreatVCurA
import Derived.Test.YtdfkhbflcacbfaaGreatVPlainD
import Derived.Test.YtdfkhbflcacbfaaGreatVQShp
import Derived.Test.YtdfkhbflcacbfaaGreatVCurM
import Derived.Test.YtdfkhbflcacbfaaGreatVTurN
import Derived.Test.YtdfkhbflcacbfaaGreatVRco
import Derived.Test.YtdfkhbflcacbfaaGreatVCod
import Derived.Test.YtdfkhbflcacbfaaGreatVLivH
import Derived.Test.YtdfkhbflcacbfaaGreatProg
import Derived.Shelf.Sort.Plain
import Derived.Shelf.Slices.CompactI
import Derived.Shelf.Slices.Cells
import Derived.Shelf.Slices.In.SortNone
import Derived.Ground.NamesProg
import Derived.Ground.Names2Prog
import Derived.Test.YtdfkhbflcacbfaaGreatVRdB
import Derived.Test.YtdfkhbflcacbfaaGreatVNetB
import Derived.Deep.RegionHeld3
import Derived.BigRegion
import Derived.BigQuiet
import Derived.Deep.DeepCutAuto
import Derived.Deep.CutBlock
set_option linter.unusedVariables false
set_option linter.unusedSimpArgs false
namespace Go.Proofs.YtdfkhbflcacbfaaGreat
open Go.RowKit
attribute [local go_sem ↓] Go.wp_at_zero Go.wp_at_succ
theorem slD_first (f : Nat → Nat) (L p : Nat) (hp : p < L) (h1 : f p = 47) (h2 : ∀ k, k < p → f k ≠ 47) : ∀ j, j ≤ L → L - j ≤ p → slD f L j = p
 | 0, _, h => by omega
 | j + 1, hj, h => by
  simp only [slD]
  split
  ·rename_i h3
   rcases Nat.lt_or_ge (L - (j + 1)) p with h4 | h4
   ·exact absurd h3 (h2 _ h4)
   ·omega
  ·rename_i h3
   exact slD_first f L p hp h1 h2 j (by omega) (by
    rcases Nat.lt_or_ge p (L - j) with h4 | h4
    ·exfalso; apply h3; rw [show L - (j + 1) = p by omega]; exact h1
    ·exact h4)
theorem slD_none (f : Nat → Nat) (L : Nat) (h2 : ∀ k, k < L → f k ≠ 47) : ∀ j, j ≤ L → slD f L j = L
 | 0, _ => rfl
 | j + 1, hj => by
  simp only [slD]
  rw [if_neg (h2 _ (by omega))]
  exact slD_none f L h2 j (by omega)
theorem bts_append {a b : ByteArray} {La Lb : Nat} {fa fb : Nat → Nat} (ha : Bts a La fa) (hb : Bts b Lb fb) : Bts (a ++ b) (La + Lb) (fun i => if i < La then fa i else fb (i - La)) := by
 refine ⟨by rw [ByteArray.size_append, ha.1, hb.1], fun i h => ?_⟩
 dsimp only
 rcases Nat.lt_or_ge i a.size with h1 | h1
 ·rw [ByteArray.getElem_append_left h1, if_pos (by rw [← ha.1]; exact h1)]; exact ha.2 i h1
 ·have h2 : i - a.size < b.size := by rw [ByteArray.size_append] at h; omega
  rw [ByteArray.getElem_append_right h1, if_neg (by rw [← ha.1]; omega), hb.2 _ h2, ha.1]
theorem bts_one (c : UInt8) : Bts ⟨#[c]⟩ 1 (fun _ => c.toNat) := ⟨rfl, fun i h => by
 have h1 : i = 0 := by have : i < 1 := h; omega
 subst h1; rfl⟩
theorem bts_cut {s : ByteArray} {L : Nat} {f g : Nat → Nat} (hs : Bts s L f) (i j : Nat) (hij : i ≤ j) (hj : j ≤ L) (hg : ∀ k, k < j - i → f (i + k) = g k) : Bts (s.extract i j) (j - i) g := by
 have hz : (s.extract i j).size = j - i := by rw [ByteArray.size_extract, hs.1, Nat.min_eq_left hj]
 refine ⟨hz, fun k h => ?_⟩
 rw [ByteArray.getElem_extract, hs.2 (i + k) (by rw [hs.1]; omega)]
 exact hg k (by omega)
/-- the text of p / d, as bytes: o bytes of sign, Lt digits, a slash and Lu digits -/
theorem parse_txt (s : ByteArray) (p : Int) (d : Nat) (w : World) (hs : FracTxt s p d) (hp : MaxD p.natAbs) (hD : MaxD d) (hd : 0 < d) (hg : Nat.gcd p.natAbs d = 1) :
  Calls Tryz.prog 32 #[.string s] w fun e w' => ∃ r, e = .returned (.tuple #[r, .bool true]) ∧ QIs w' r p ((d : Nat) : Int) 1000 ∧ Below w.heap.size w w' := by
 obtain ⟨t, ⟨Lt, hLt, hts, htb⟩, hcase⟩ := hs
 have bt : Bts t Lt (fun i => 48 + d10 p.natAbs (Lt - 1 - i)) := ⟨hts, htb⟩
 have okt := okD_txt hLt hp.lt
 have nut := numD_txt hLt
 have h4t : Lt ≤ 4000 := okt.2.1
 have hpos := hLt.pos
 rcases hcase with ⟨d1, hs⟩ | ⟨d1, u, ⟨Lu, hLu, hus, hub⟩, hs⟩
 ·subst d1
  rcases (by omega : p < 0 ∨ 0 ≤ p) with hneg | hge
  ·rw [if_pos hneg] at hs
   have b0 : Bts s (1 + Lt) _ := hs ▸ bts_append (bts_one 45) bt
   have b1 := bts_cut b0 1 (1 + Lt) (by omega) (Nat.le_refl _) (g := fun i => 48 + d10 p.natAbs (Lt - 1 - i)) (fun k hk => by
    rw [if_neg (by omega), show 1 + k - 1 = k by omega])
   rw [show 1 + Lt - 1 = Lt by omega] at b1
   have hsz : s.size = 1 + Lt := b0.1
   rw [← hsz] at b1
   have e1 : (s.extract 1 s.size).size = Lt := b1.1
   have hsl := slD_none (fun i => 48 + d10 p.natAbs (Lt - 1 - i)) Lt (fun k _ => (txt_no _ _ _).1) Lt (Nat.le_refl _)
   have b2 := bts_cut b1 0 Lt (Nat.zero_le _) (Nat.le_refl _) (g := fun i => 48 + d10 p.natAbs (Lt - 1 - i)) (fun k hk => by rw [Nat.zero_add])
   refine (parse_mn s (s.extract 1 s.size) ((s.extract 1 s.size).extract 0 Lt) (fun i => 48 + d10 p.natAbs (Lt - 1 - i)) (fun i => 48 + d10 p.natAbs (Lt - 1 - i)) Lt p.natAbs w (by omega) (by omega) ?_ rfl (by rw [e1]; exact b1) (by rw [e1]; exact hsl) rfl b2 okt nut (by omega) (by omega)).mono ?_
   ·rw [b0.2 0 (by omega)]; rfl
   ·rintro e w' ⟨r, rfl, hr, hb⟩
    refine ⟨r, rfl, ?_, hb⟩
    rw [show p = -((p.natAbs : Nat) : Int) by omega]
    simpa using hr
  ·rw [if_neg (by omega)] at hs
   subst hs
   have hsl := slD_none (fun i => 48 + d10 p.natAbs (Lt - 1 - i)) Lt (fun k _ => (txt_no _ _ _).1) Lt (Nat.le_refl _)
   have b2 := bts_cut bt 0 Lt (Nat.zero_le _) (Nat.le_refl _) (g := fun i => 48 + d10 p.natAbs (Lt - 1 - i)) (fun k hk => by rw [Nat.zero_add])
   refine (parse_pn s (s.extract 0 Lt) (fun i => 48 + d10 p.natAbs (Lt - 1 - i)) (fun i => 48 + d10 p.natAbs (Lt - 1 - i)) Lt p.natAbs w (by omega) (fun h0 => ?_) (by rw [hts]; exact bt) (by rw [hts]; exact hsl) rfl b2 okt nut (by omega)).mono ?_
   ·rw [bt.2 0 h0]; exact (txt_no _ _ _).2
   ·rintro e w' ⟨r, rfl, hr, hb⟩
    refine ⟨r, rfl, ?_, hb⟩
    rw [show p = ((p.natAbs : Nat) : Int) by omega]
    simpa using hr
 ·have bu : Bts u Lu (fun i => 48 + d10 d (Lu - 1 - i)) := ⟨hus, hub⟩
  have oku := okD_txt hLu hD.lt
  have nuu := numD_txt hLu
  have h4u : Lu ≤ 4000 := oku.2.1
  have btu := bts_append bt (bts_append (bts_one 47) bu)
  rcases (by omega : p < 0 ∨ 0 ≤ p) with hneg | hge
  ·rw [if_pos hneg, ByteArray.append_assoc] at hs
   have b0 : Bts s (1 + (Lt + (1 + Lu))) _ := hs ▸ bts_append (bts_one 45) btu
   have hsz : s.size = 1 + (Lt + (1 + Lu)) := b0.1
   have b1 := bts_cut b0 1 (1 + (Lt + (1 + Lu))) (by omega) (Nat.le_refl _) (g := fun i => if i < Lt then 48 + d10 p.natAbs (Lt - 1 - i) else if i - Lt < 1 then 47 else 48 + d10 d (Lu - 1 - (i - Lt - 1))) (fun k hk => by
    rw [if_neg (by omega), show 1 + k - 1 = k by omega]
    rfl)
   rw [show 1 + (Lt + (1 + Lu)) - 1 = Lt + (1 + Lu) by omega, ← hsz] at b1
   have e1 : (s.extract 1 s.size).size = Lt + (1 + Lu) := b1.1
   have hsl := slD_first (fun i => if i < Lt then 48 + d10 p.natAbs (Lt - 1 - i) else if i - Lt < 1 then 47 else 48 + d10 d (Lu - 1 - (i - Lt - 1))) (Lt + (1 + Lu)) Lt (by omega) (by rw [if_neg (by omega), if_pos (by omega)]) (fun k hk => by rw [if_pos hk]; exact (txt_no _ _ _).1) (Lt + (1 + Lu)) (Nat.le_refl _) (by omega)
   have b2 := bts_cut b1 0 Lt (Nat.zero_le _) (by omega) (g := fun i => 48 + d10 p.natAbs (Lt - 1 - i)) (fun k hk => by rw [Nat.zero_add, if_pos (by omega)])
   have b3 := bts_cut b1 (Lt + 1) (Lt + (1 + Lu)) (by omega) (Nat.le_refl _) (g := fun i => 48 + d10 d (Lu - 1 - i)) (fun k hk => by rw [if_neg (by omega), if_neg (by omega), show Lt + 1 + k - Lt - 1 = k by omega])
   rw [show Lt + (1 + Lu) - (Lt + 1) = Lu by omega] at b3
   refine (parse_ms s (s.extract 1 s.size) ((s.extract 1 s.size).extract 0 Lt) ((s.extract 1 s.size).extract (Lt + 1) (Lt + (1 + Lu))) _ (fun i => 48 + d10 p.natAbs (Lt - 1 - i)) (fun i => 48 + d10 d (Lu - 1 - i)) Lt p.natAbs Lu d w (by omega) (by omega) ?_ rfl (by rw [e1]; exact b1) (by rw [e1]; exact hsl) rfl b2 okt nut (by omega) (by rw [e1]) b3 oku nuu (by omega) hg (by omega)).mono ?_
   ·rw [b0.2 0 (by omega)]; rfl
   ·rintro e w' ⟨r, rfl, hr, hb⟩
    refine ⟨r, rfl, ?_, hb⟩
    rw [show p = -((p.natAbs : Nat) : Int) by omega]
    simpa using hr
  ·rw [if_neg (by omega)] at hs
   have b1 : Bts s (Lt + (1 + Lu)) (fun i => if i < Lt then 48 + d10 p.natAbs (Lt - 1 - i) else if i - Lt < 1 then 47 else 48 + d10 d (Lu - 1 - (i - Lt - 1))) := hs ▸ btu
   have hsz : s.size = Lt + (1 + Lu) := b1.1
   have hsl := slD_first (fun i => if i < Lt then 48 + d10 p.natAbs (Lt - 1 - i) else if i - Lt < 1 then 47 else 48 + d10 d (Lu - 1 - (i - Lt - 1))) (Lt + (1 + Lu)) Lt (by omega) (by rw [if_neg (by omega), if_pos (by omega)]) (fun k hk => by rw [if_pos hk]; exact (txt_no _ _ _).1) (Lt + (1 + Lu)) (Nat.le_refl _) (by omega)
   have b2 := bts_cut b1 0 Lt (Nat.zero_le _) (by omega) (g := fun i => 48 + d10 p.natAbs (Lt - 1 - i)) (fun k hk => by rw [Nat.zero_add, if_pos (by omega)])
   have b3 := bts_cut b1 (Lt + 1) (Lt + (1 + Lu)) (by omega) (Nat.le_refl _) (g := fun i => 48 + d10 d (Lu - 1 - i)) (fun k hk => by rw [if_neg (by omega), if_neg (by omega), show Lt + 1 + k - Lt - 1 = k by omega])
   rw [show Lt + (1 + Lu) - (Lt + 1) = Lu by omega] at b3
   refine (parse_ps s (s.extract 0 Lt) (s.extract (Lt + 1) (Lt + (1 + Lu))) _ (fun i => 48 + d10 p.natAbs (Lt - 1 - i)) (fun i => 48 + d10 d (Lu - 1 - i)) Lt p.natAbs Lu d w (by omega) (fun h0 => ?_) (by rw [hsz]; exact b1) (by rw [hsz]; exact hsl) rfl b2 okt nut (by omega) (by rw [hsz]) b3 oku nuu (by omega) hg).mono ?_
   ·rw [b1.2 0 h0]; dsimp only; rw [if_pos (by omega)]; exact (txt_no _ _ _).2
   ·rintro e w' ⟨r, rfl, hr, hb⟩
    refine ⟨r, rfl, ?_, hb⟩
    rw [show p = ((p.natAbs : Nat) : Int) by omega]
    simpa using hr
end Go.Proofs.YtdfkhbflcacbfaaGreat

/- The reference's reading of the texts of numbers: Valid, Of, Nums, Qs; nums of the laws. -/
namespace Go.Proofs.YtdfkhbflcacbfaaGreat
open Go.RowKit
attribute [local go_sem ↓] Go.wp_at_zero Go.wp_at_succ
/-- a text of the number q, of at most 4000 digits in each part -/
structure TxtQ (s : ByteArray) (q : Rat) : Prop where
 txt : FracTxt s q.num q.den
 mn : MaxD q.num.natAbs
 md : MaxD q.den
theorem parse_q (s : ByteArray) (q : Rat) (w : World) (h : TxtQ s q) :
  Calls Tryz.prog 32 #[.string s] w fun e w' => ∃ s1 a n c t b l k, e = .returned (.tuple #[.agg #[.bool s1, .slice a n c, .bool t, .slice b l k], .bool true]) ∧ Hid (QIs w' (.agg #[.bool s1, .slice a n c, .bool t, .slice b l k]) q.num ((q.den : Nat) : Int) 1000) ∧ Hid (Below w.heap.size w w') := by
 refine (parse_txt s q.num q.den w h.txt h.mn h.md q.den_pos q.reduced).mono ?_
 rintro e w' ⟨r, rfl, hr, hb⟩
 obtain ⟨s1, a, n, c, t, b, l, k, rfl, -, -, -⟩ := hr.shape
 exact ⟨s1, a, n, c, t, b, l, k, rfl, Lib.hid hr, Lib.hid hb⟩
set_option maxHeartbeats 1000000 in
theorem valid_any (s : ByteArray) (q : Rat) (w : World) (h : TxtQ s q) :
  Calls Tryz.prog 12 #[.string s] w fun e w' => e = .returned (.bool true) ∧ Below w.heap.size w w' := by
 have H := Lib.hid h
 clear h
 go_enter Tryz.func12, Tryz.ntmps12
 go_wp2_with (go_at_call 32; (with_reducible refine (parse_q s q _ H.out).mono ?_); rintro e w1 ⟨s1, a, n, c, t, b, l, k, rfl, HQ, KW⟩)
 go_ret
 exact ⟨rfl, KW.out.alloc KW.out.size _⟩
theorem QIs.store4 {w : World} {v : Value} {p d : Int} {m b : Nat} (h : QIs w v p d m) (O : Own4 w b (.bool false) (.slice none 0 0) (.bool false) (.slice none 0 0)) (u0 u1 u2 u3 : Value) :
  QIs ((((w.setCell ⟨b, 0, none⟩ u0).setCell ⟨b, 1, none⟩ u1).setCell ⟨b, 2, none⟩ u2).setCell ⟨b, 3, none⟩ u3) v p d m := by
 obtain ⟨s1, u1, s2, u2, rfl, h1, h2, h3⟩ := h
 exact ⟨s1, u1, s2, u2, rfl, h1.store4 O _ _ _ _, h2.store4 O _ _ _ _, h3⟩
theorem QIs.alloc {w : World} {v : Value} {p d : Int} {m : Nat} (h : QIs w v p d m) (o : Obj) : QIs (w.alloc o) v p d m := h.mono ((Below.refl w.heap.size w).alloc (Nat.le_refl _) o) (Nat.le_refl _)
set_option maxHeartbeats 1000000 in
theorem of_any (s : ByteArray) (q : Rat) (w : World) (h : TxtQ s q) :
  Calls Tryz.prog 15 #[.string s] w fun e w' => ∃ s1 a n c t b l k, e = .returned (.agg #[.bool s1, .slice a n c, .bool t, .slice b l k]) ∧ Hid (QIs w' (.agg #[.bool s1, .slice a n c, .bool t, .slice b l k]) q.num ((q.den : Nat) : Int) 1000) ∧ Hid (Below w.heap.size w w') := by
 have H := Lib.hid h
 clear h
 have O4 := Lib.hid (own4_new w w.heap.size rfl (.bool false) (.slice none 0 0) (.bool false) (.slice none 0 0) 46)
 have KW := Lib.hid ((Below.refl w.heap.size w).alloc (Nat.le_refl _) (.cells #[.bool false, .slice none 0 0, .bool false, .slice none 0 0] 46))
 go_enter Tryz.func15, Tryz.ntmps15
 go_wp2_with (go_at_call 32; (with_reducible refine (parse_q s q _ H.out).mono ?_); rintro e w1 ⟨s1, a, n, c, t, b, l, k, rfl, HQ, hb⟩; have O4 := Lib.hid (O4.out.below hb.out O4.out.lt); have KW := Lib.hid (KW.out.trans (hb.out.mono KW.out.size)); have n1 : w.heap.size < w1.heap.size := (by have := hb.out.size; simp at this; omega); obtain ⟨x0, x1, x2, x3, xf, xl⟩ := O4.out)
 refine bodyPost_ret (v := .agg #[.bool s1, .slice a n c, .bool t, .slice b l k]) (by simp [results, Tryz.results15, go_sem, x0, x1, x2, x3, xf, xl, n1]) rfl ?_
 exact ⟨_, _, _, _, _, _, _, _, rfl, Lib.hid ((HQ.out.store4 O4.out _ _ _ _).alloc _), Lib.hid ((below_set4q KW.out (Nat.le_refl _) _ _ _ _).alloc (below_set4q KW.out (Nat.le_refl _) _ _ _ _).size _)⟩
end Go.Proofs.YtdfkhbflcacbfaaGreat

/- Network, Currents and Resistance of a cut, in one shape; the reference's Lay of a cut. -/
namespace Go.Proofs.YtdfkhbflcacbfaaGreat
open Go.RowKit
theorem pairRow2 {w : World} {base n : Nat} {va : Option Addr} {vk : Nat} {P : List (Int × Int)} (h : w.ownsRow base 66 2 (.slice va n vk) n (prL P)) (hl : P.length = n) (h0 : 0 < n) :
  ∃ g, va = some ⟨g, 0, none⟩ ∧ PrR w g 0 P ∧ g < w.heap.size := by
 subst hl
 obtain ⟨g, c, hv, _, _⟩ := h.form (by omega)
 injection hv with u1 u2 u3
 subst u1; subst u3
 exact ⟨g, rfl, prR_own h⟩
theorem net_mk {B : Nat} (v : Value) (L : List Tr) (W H : Nat) (w : World) (hv : OwS B w v L) (hm : MkC L W H) (hn : L.length ≤ 24) :
  Calls Tryz.prog 7 #[v] w fun e w' => ∃ g vk S J, NetP S J W H ∧ L.Perm S ∧ S.Pairwise (fun a b => ¬ ltS b a) ∧ S.length = L.length ∧
   e = .returned (.tuple #[.int .i64 (J.length : Nat), .slice (some ⟨g, 0, none⟩) L.length vk, .int .i64 0]) ∧ PrR w' g 0 (netW S J) ∧ g < w'.heap.size ∧ Below w.heap.size w w' := by
 refine (network_mk v L W H w hv hm hn).mono ?_
 rintro e w' ⟨va, vk, S, J, hp, hs, hc, _, rfl, ho, hb⟩
 have hl := hp.length_eq
 obtain ⟨g, rfl, h1, h2⟩ := pairRow2 ho (netF_len S J S.length) (by rw [← hl]; exact hm.pos)
 exact ⟨g, vk, S, J, ⟨hm.perm hp, by omega, hc.congr (fun y x => edge_perm hp y x)⟩, hp, hs, hl.symm, by rw [hl], h1, h2, hb⟩
theorem res_mk (n : Nat) (S J : List Tr) (W H g c : Nat) (w : World) (h : NetP S J W H) (hn : S.length = n) (hW : PrR w g 0 (netW S J)) (hg : g < w.heap.size) :
  Calls Tryz.prog 9 #[.int .i64 (J.length : Nat), .slice (some ⟨g, 0, none⟩) n c] w fun e w' => ∃ s, e = .returned (.tuple #[.string s, .int .i64 0]) ∧
   FracTxt s (((H : Nat) : Rat) / ((W : Nat) : Rat)).num (((H : Nat) : Rat) / ((W : Nat) : Rat)).den ∧ Below w.heap.size w w' := by
 subst hn
 exact resistance_mk S J W H g c w h hW hg
theorem net_n {B : Nat} (v : Value) (L : List Tr) (W H n : Nat) (w : World) (hv : OwS B w v L) (hm : MkC L W H) (hl : L.length = n) (hn : n ≤ 24) :
  Calls Tryz.prog 7 #[v] w fun e w' => ∃ g vk S J, NetP S J W H ∧ L.Perm S ∧ S.Pairwise (fun a b => ¬ ltS b a) ∧ S.length = n ∧
   e = .returned (.tuple #[.int .i64 (J.length : Nat), .slice (some ⟨g, 0, none⟩) n vk, .int .i64 0]) ∧ PrR w' g 0 (netW S J) ∧ g < w'.heap.size ∧ Below w.heap.size w w' := by
 subst hl
 exact net_mk v L W H w hv hm hn
theorem hw_maxD {L : List Tr} {W H : Nat} (h : MkC L W H) : MaxD (((H : Nat) : Rat) / ((W : Nat) : Rat)).num.natAbs ∧ MaxD (((H : Nat) : Rat) / ((W : Nat) : Rat)).den := by
 have hlow := lowest_le (w := ((H : Nat) : Rat) / ((W : Nat) : Rat)) (p := (H : Int)) (q := (W : Int)) (by have := h.w1; omega) (by
  have := Rat.inv_mul_cancel _ (natQ_ne h.w1)
  have e1 : (((W : Nat) : Int) : Rat) = ((W : Nat) : Rat) := rfl
  have e2 : (((H : Nat) : Int) : Rat) = ((H : Nat) : Rat) := rfl
  rw [e1, e2, Rat.div_def]; grind)
 exact ⟨maxD_of (e := 4) (by have := h.hb; omega) (by decide), maxD_of (e := 4) (by have := h.wb; omega) (by decide)⟩
end Go.Proofs.YtdfkhbflcacbfaaGreat

/- The shelf's Sort and Compact of integers at this program, in plain words (written by the kit's lay-plain.mjs). -/
namespace Go.Proofs
open Go.Shelf
def Tryz.sortI_ren : Go.Shelf.Ren := ⟨fun | 189 => 30 | 125 => 70 | 257 => 69 | 128 => 105 | 129 => 106 | 294 => 96 | 295 => 97 | 296 => 98 | 297 => 99 | 298 => 100 | 299 => 101 | 216 => 102 | 300 => 103 | 301 => 104 | 328 => 139 | 329 => 140 | 330 => 141 | 331 => 142 | 332 => 143 | 215 => 95 | 343 => 157 | n => n, fun | 28 => 36 | 3 => 3 | 46 => 125 | 0 => 0 | 51 => 135 | 53 => 132 | 4 => 4 | 183 => 152 | 182 => 151 | 131 => 157 | 5 => 5 | 9 => 9 | 218 => 183 | 222 => 187 | 228 => 196 | 229 => 108 | n => n, fun | n => n⟩
theorem Tryz.sortI : Go.Proofs.Lays.n189 Tryz.prog Tryz.sortI_ren := {
 mixed := by kernel_rfl
 f125 := Tryz.func70.trans (congrArg some (by kernel_rfl))
 f128 := Tryz.func105.trans (congrArg some (by kernel_rfl))
 f129 := Tryz.func106.trans (congrArg some (by kernel_rfl))
 f189 := Tryz.func30.trans (congrArg some (by kernel_rfl))
 f215 := Tryz.func95.trans (congrArg some (by kernel_rfl))
 f216 := Tryz.func102.trans (congrArg some (by kernel_rfl))
 f257 := Tryz.func69.trans (congrArg some (by kernel_rfl))
 f294 := Tryz.func96.trans (congrArg some (by kernel_rfl))
 f295 := Tryz.func97.trans (congrArg some (by kernel_rfl))
 f296 := Tryz.func98.trans (congrArg some (by kernel_rfl))
 f297 := Tryz.func99.trans (congrArg some (by kernel_rfl))
 f298 := Tryz.func100.trans (congrArg some (by kernel_rfl))
 f299 := Tryz.func101.trans (congrArg some (by kernel_rfl))
 f300 := Tryz.func103.trans (congrArg some (by kernel_rfl))
 f301 := Tryz.func104.trans (congrArg some (by kernel_rfl))
 f328 := Tryz.func139.trans (congrArg some (by kernel_rfl))
 f329 := Tryz.func140.trans (congrArg some (by kernel_rfl))
 f330 := Tryz.func141.trans (congrArg some (by kernel_rfl))
 f331 := Tryz.func142.trans (congrArg some (by kernel_rfl))
 f332 := Tryz.func143.trans (congrArg some (by kernel_rfl))
 f343 := Tryz.func157.trans (congrArg some (by kernel_rfl))
 t0 := Tryz.underlying0
 a0 := Tryz.isAgg0
 z0 := Tryz.sizeOf0
 v0 := Tryz.zeroValue0
 t3 := Tryz.underlying3
 a3 := Tryz.isAgg3
 z3 := Tryz.sizeOf3
 v3 := Tryz.zeroValue3
 t4 := Tryz.underlying4
 a4 := Tryz.isAgg4
 z4 := Tryz.sizeOf4
 v4 := Tryz.zeroValue4
 t5 := Tryz.underlying5
 a5 := Tryz.isAgg5
 z5 := Tryz.sizeOf5
 v5 := Tryz.zeroValue5
 t9 := Tryz.underlying9
 a9 := Tryz.isAgg9
 z9 := Tryz.sizeOf9
 v9 := Tryz.zeroValue9
 t28 := Tryz.underlying36
 a28 := Tryz.isAgg36
 z28 := Tryz.sizeOf36
 v28 := Tryz.zeroValue36
 t46 := Tryz.underlying125
 a46 := Tryz.isAgg125
 z46 := Tryz.sizeOf125
 v46 := Tryz.zeroValue125
 t51 := Tryz.underlying135
 a51 := Tryz.isAgg135
 z51 := Tryz.sizeOf135
 v51 := Tryz.zeroValue135
 t53 := Tryz.underlying132
 a53 := Tryz.isAgg132
 z53 := Tryz.sizeOf132
 v53 := Tryz.zeroValue132
 t131 := Tryz.underlying157
 a131 := Tryz.isAgg157
 z131 := Tryz.sizeOf157
 v131 := Tryz.zeroValue157
 t182 := Tryz.underlying151
 a182 := Tryz.isAgg151
 z182 := Tryz.sizeOf151
 v182 := Tryz.zeroValue151
 t183 := Tryz.underlying152
 a183 := Tryz.isAgg152
 z183 := Tryz.sizeOf152
 v183 := Tryz.zeroValue152
 t218 := Tryz.underlying183
 a218 := Tryz.isAgg183
 z218 := Tryz.sizeOf183
 v218 := Tryz.zeroValue183
 t222 := Tryz.underlying187
 a222 := Tryz.isAgg187
 z222 := Tryz.sizeOf187
 v222 := Tryz.zeroValue187
 t228 := Tryz.underlying196
 a228 := Tryz.isAgg196
 z228 := Tryz.sizeOf196
 v228 := Tryz.zeroValue196
 t229 := Tryz.underlying108
 a229 := Tryz.isAgg108
 z229 := Tryz.sizeOf108
 v229 := Tryz.zeroValue108 }
def Tryz.compI_ren : Go.Shelf.Ren := ⟨fun | 20 => 31 | n => n, fun | 22 => 36 | 3 => 3 | 4 => 4 | 0 => 0 | n => n, fun | n => n⟩
theorem Tryz.compI : Go.Proofs.Lays2.n20 Tryz.prog Tryz.compI_ren := {
 mixed := by kernel_rfl
 f20 := Tryz.func31.trans (congrArg some (by kernel_rfl))
 t0 := Tryz.underlying0
 a0 := Tryz.isAgg0
 z0 := Tryz.sizeOf0
 v0 := Tryz.zeroValue0
 t3 := Tryz.underlying3
 a3 := Tryz.isAgg3
 z3 := Tryz.sizeOf3
 v3 := Tryz.zeroValue3
 t4 := Tryz.underlying4
 a4 := Tryz.isAgg4
 z4 := Tryz.sizeOf4
 v4 := Tryz.zeroValue4
 t22 := Tryz.underlying36
 a22 := Tryz.isAgg36
 z22 := Tryz.sizeOf36
 v22 := Tryz.zeroValue36
 i3 := by kernel_rfl }
end Go.Proofs

/- Perfect of the reference of hide. -/
namespace Go.Proofs.YtdfkhbflcacbfaaGreat
open Go.RowKit
attribute [local go_sem ↓] Go.wp_at_zero Go.wp_at_succ
/-- no two squares have one size -/
def DistS (S : List Tr) : Prop := ∀ i j, j < i → i < S.length → (S.getD i default).c ≠ (S.getD j default).c
end Go.Proofs.YtdfkhbflcacbfaaGreat

/- Perfect of hide: squares that are no cut; the plain law of Sort and Compact. -/
namespace Go.Proofs.YtdfkhbflcacbfaaGreat
open Go.RowKit
attribute [local go_sem ↓] Go.wp_at_zero Go.wp_at_succ
theorem compact_len {n : Nat} (zs : List Int) (hn : zs.length = n) : (Go.Lib.compact zs).length = n ↔ ∀ j, j < n → Go.Lib.keeps zs.toArray j = true := by
 subst hn
 unfold Go.Lib.compact Go.Lib.compactUpTo
 rw [List.length_map]
 constructor
 ·intro h j hj
  have h2 : (List.range zs.length).filter (Go.Lib.keeps zs.toArray) = List.range zs.length := List.filter_sublist.eq_of_length (by rw [h, List.length_range])
  have h3 : j ∈ (List.range zs.length).filter (Go.Lib.keeps zs.toArray) := by rw [h2]; simpa using hj
  exact (List.mem_filter.1 h3).2
 ·intro h
  rw [List.filter_eq_self.2 (fun j hj => h j (by simpa using hj)), List.length_range]
theorem sorted_dist (zs : List Int) (hs : zs.Pairwise (fun a b => a ≤ b)) : (Go.Lib.compact zs).length = zs.length ↔ zs.Nodup := by
 rw [compact_len zs rfl]
 have hget := List.pairwise_iff_getElem.1 hs
 constructor
 ·intro h
  rw [List.nodup_iff_pairwise_ne, List.pairwise_iff_getElem]
  intro i j hi hj hij e
  have h1 := h (i + 1) (by omega)
  simp only [Go.Lib.keeps, decide_eq_true_eq] at h1
  rcases h1 with h1 | h1
  ·omega
  ·apply h1
   have g1 := hget i (i + 1) hi (by omega) (by omega)
   have g2 : zs[i + 1]'(by omega) ≤ zs[j] := by
    by_cases q : i + 1 = j
    ·subst q; exact Int.le_refl _
    ·exact hget (i + 1) j (by omega) hj (by omega)
   simp only [Nat.add_sub_cancel]
   simp [show i + 1 < zs.length by omega, hi]
   omega
 ·intro h j hj
  simp only [Go.Lib.keeps, decide_eq_true_eq]
  by_cases h0 : j = 0
  ·exact .inl h0
  ·right
   rw [List.nodup_iff_pairwise_ne, List.pairwise_iff_getElem] at h
   have := h (j - 1) j (by omega) hj (by omega)
   simp [hj, show j - 1 < zs.length by omega]
   exact fun e => this e.symm
theorem distS_nodup (S : List Tr) : DistS S ↔ (S.map (fun t => t.c)).Nodup := by
 rw [List.nodup_iff_pairwise_ne, List.pairwise_iff_getElem]
 unfold DistS
 constructor
 ·intro h i j hi hj hij
  rw [List.length_map] at hi hj
  have := h j i hij hj
  simp only [List.getElem_map]
  simp [hi, hj] at this
  exact fun e => this e.symm
 ·intro h i j hji hi
  have := h j i (by rw [List.length_map]; omega) (by rw [List.length_map]; exact hi) hji
  simp only [List.getElem_map] at this
  simp [hi, show j < S.length by omega]
  exact fun e => this e.symm
end Go.Proofs.YtdfkhbflcacbfaaGreat
