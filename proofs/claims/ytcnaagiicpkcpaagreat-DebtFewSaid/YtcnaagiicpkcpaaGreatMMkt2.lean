/- A market in memory; share of package debt. -/
import Derived.Test.YtcnaagiicpkcpaaGreatMRat5
import Derived.Handy
import Derived.Laws.BytesString
import Derived.Test.YtcnaagiicpkcpaaGreatMTakes
import Derived.Test.YtcnaagiicpkcpaaGreatMFun
import Derived.Deep.RegionLaw
set_option linter.unusedVariables false
set_option linter.unusedSimpArgs false
namespace Go.Proofs.YtcnaagiicpkcpaaGreat
open Go.RowKit
attribute [local go_sem ↓] Go.wp_at_zero Go.wp_at_succ
/-- a market: its number of firms, their cash, their debts and what they owe in all -/
structure IsMkt (w : World) (b n : Nat) (cash : Nat → Int) (d : Nat → Nat → Int) (vc vd vt : Value) : Prop where
 c0 : w.cell? ⟨b, 0, none⟩ = some (.int .i64 (n : Nat))
 c1 : w.cell? ⟨b, 1, none⟩ = some vc
 c2 : w.cell? ⟨b, 2, none⟩ = some vd
 c3 : w.cell? ⟨b, 3, none⟩ = some vt
 hcash : Ints w vc n cash
 hdebt : Mat w vd n (fun _ => n) d
 htot : Ints w vt n (fun i => sumF (d i) n)
 lt : b < w.heap.size
theorem IsMkt.mono {w w' : World} {b n : Nat} {cash : Nat → Int} {d : Nat → Nat → Int} {vc vd vt : Value} {B : Nat} (h : IsMkt w b n cash d vc vd vt) (hb : Below B w w') (hB : w.heap.size ≤ B) : IsMkt w' b n cash d vc vd vt :=
 have k : ∀ o, w'.cell? ⟨b, o, none⟩ = w.cell? ⟨b, o, none⟩ := fun o => hb.cell (p := ⟨b, o, none⟩) (Nat.lt_of_lt_of_le h.lt hB)
 ⟨(k 0).trans h.c0, (k 1).trans h.c1, (k 2).trans h.c2, (k 3).trans h.c3, h.hcash.mono hb hB, h.hdebt.mono hb hB, h.htot.mono hb hB, Nat.lt_of_lt_of_le h.lt hb.size⟩
/-- the part of its payments t that a firm pays to one to which it owes x -/
def shareQ (t x : Int) : Rat := if t = 0 then 0 else (x : Rat) / (t : Rat)
theorem bel1 {w w' : World} {B : Nat} {b o : Nat} {v : Value} (hb : Below B w w') (h : w.cell? ⟨b, o, none⟩ = some v) (hB : b < B) : w'.cell? ⟨b, o, none⟩ = some v := (hb.cell (p := ⟨b, o, none⟩) hB).trans h
set_option maxHeartbeats 2000000 in
theorem share_any (b n i j : Nat) (cash : Nat → Int) (d : Nat → Nat → Int) (vc vd vt : Value) (w : World) (hm : IsMkt w b n cash d vc vd vt) (hi : i < n) (hj : j < n)
  (hd0 : 0 ≤ d i j) (hd1 : d i j ≤ 1000) (ht0 : 0 ≤ sumF (d i) n) (ht1 : sumF (d i) n ≤ 100000) :
  Calls Tryz.prog 70 #[.pointer (some ⟨b, 0, none⟩), .int .i64 (i : Nat), .int .i64 (j : Nat)] w fun e w' => ∃ r, e = .returned r ∧ RatIs w' r (shareQ (sumF (d i) n) (d i j)) 4 ∧ Below w.heap.size w w' := by
 obtain ⟨c0, c1, c2, c3, hcash, ⟨da, db, d_o, dc, ra, rb, ro, rc, rfl, hdm⟩, ⟨ta, tb, t_o, tc, rfl, hts⟩, hlt⟩ := hm
 have ixt := fun W => ixI hts i tc hi W
 have ixd := fun W => ixM hdm.top i dc hi W
 have ixe := fun W => ixI (hdm.row i hi) j (rc i) hj W
 have hct := hts.cell i hi
 have hcd := hdm.top.cell i hi
 have hce := (hdm.row i hi).cell j hj
 have hlt1 := hts.lt (by omega)
 have hlt2 := hdm.top.lt (by omega)
 have hlt3 := (hdm.row i hi).lt (by omega)
 simp only [ic] at hct hce
 generalize hT : sumF (d i) n = T at *
 generalize hX : d i j = X at *
 clear hT hX hcash c0 c1
 have keepS : Hid (∀ w', Below w.heap.size w w' → w'.cell? ⟨b, 2, none⟩ = some (.slice da n dc) ∧ w'.cell? ⟨b, 3, none⟩ = some (.slice ta n tc) ∧ w'.cell? ⟨tb, t_o + i, none⟩ = some (.int .i64 T) ∧ w'.cell? ⟨db, d_o + i, none⟩ = some (.slice (ra i) n (rc i)) ∧ w'.cell? ⟨rb i, ro i + j, none⟩ = some (.int .i64 X)) :=
  Lib.hid (fun w' hb => ⟨bel1 hb c2 hlt, bel1 hb c3 hlt, bel1 hb hct hlt1, bel1 hb hcd hlt2, bel1 hb hce hlt3⟩)
 have KW : Hid (Below w.heap.size w (w.alloc (Obj.cells #[.bool false, .slice none 0 0, .bool false, .slice none 0 0] 95))) := boxes1 w _
 have PO : Hid (Own4 (w.alloc (Obj.cells #[.bool false, .slice none 0 0, .bool false, .slice none 0 0] 95)) w.heap.size (.bool false) (.slice none 0 0) (.bool false) (.slice none 0 0)) := own4_new _ _ rfl _ _ _ _ _
 clear hts hdm c2 c3 hct hcd hce
 obtain ⟨c2, c3, hct, hcd, hce⟩ := keepS.out _ KW.out
 by_cases h0 : T = 0
 ·have d0 : (T == 0) = true := by simpa using h0
  have H0 := Lib.hid h0
  clear h0
  go_enter Tryz.func70, Tryz.ntmps70
  go_wp2_with (first
   | (go_at_call 56; (with_reducible refine (rat_whole 0 (by omega) (by omega) _).mono ?_); rintro e w1 ⟨r1, rfl, hr1, hb1⟩; obtain ⟨s1, a1, n1, c1, b1, m1, d1, rfl, KR⟩ := hr1.shape; clear hr1; have KW := Lib.hid (KW.out.trans (hb1.mono KW.out.size)); have PO := Lib.hid (PO.out.below hb1 PO.out.lt); obtain ⟨x0, x1, x2, x3, xf, xl⟩ := PO.out))
  refine bodyPost_ret (v := .agg #[.bool s1, .slice a1 n1 c1, .bool false, .slice b1 m1 d1]) (by simp [results, Tryz.results70, go_sem, x0, x1, x2, x3, xf]) rfl ?_
  refine ⟨_, rfl, RatIs.into (RatIs.le (m := 2) (by rw [shareQ, if_pos H0.out]; exact KR.out) (by omega)) _ _ _ _ PO.out, below_set4 KW.out (by omega) _ _ _ _⟩
 ·have d0 : (T == 0) = false := by simpa using h0
  have HP : Hid (0 < ((T : Int) : Rat).num) := Lib.hid (by rw [Rat.num_intCast]; omega)
  have HQ : Hid ((X : Rat) / (T : Rat) = shareQ T X) := Lib.hid (by rw [shareQ, if_neg h0])
  clear h0
  go_enter Tryz.func70, Tryz.ntmps70
  go_wp2
  have KW0 := KW
  have KW := Lib.hid KW.out.drew
  have PO := Lib.hid PO.out.drew
  go_region_held3 (fun w' => w'.cell? ⟨b, 2, none⟩ = some (.slice da n dc) ∧ w'.cell? ⟨b, 3, none⟩ = some (.slice ta n tc) ∧ w'.cell? ⟨tb, t_o + i, none⟩ = some (.int .i64 T) ∧ w'.cell? ⟨db, d_o + i, none⟩ = some (.slice (ra i) n (rc i)) ∧ w'.cell? ⟨rb i, ro i + j, none⟩ = some (.int .i64 X))
   (first | (with_reducible exact keepS.out _ KW0.out) | (with_reducible exact keepS.out _ KW.out) | (with_reducible exact keepS.out _ (below_set4 KW.out (Nat.le_refl _) _ _ _ _)))
   (first
   | (go_at_call 56; (with_reducible refine (rat_whole X (by omega) (by omega) _).mono ?_); rintro e w1 ⟨r1, rfl, hr1, hb1⟩; (try have K2 := Lib.hid (K2.out.mono hb1 (Nat.le_refl _))); obtain ⟨s1, a1, n1, c1, b1, m1, d1, rfl, K1⟩ := hr1.shape; clear hr1; have KW := Lib.hid (KW.out.trans (hb1.mono KW.out.size)); have PO := Lib.hid (PO.out.below hb1 PO.out.lt))
   | (go_at_call 56; (with_reducible refine (rat_whole T (by omega) (by omega) _).mono ?_); rintro e w2 ⟨r2, rfl, hr2, hb2⟩; (try have K1 := Lib.hid (K1.out.mono hb2 (Nat.le_refl _))); obtain ⟨s2, a2, n2, e2, b2, m2, d2, rfl, K2⟩ := hr2.shape; clear hr2; have KW := Lib.hid (KW.out.trans (hb2.mono KW.out.size)); have PO := Lib.hid (PO.out.below hb2 PO.out.lt))
   | (go_at_call 83; (with_reducible refine (rat_div _ _ (X : Rat) (T : Rat) 2 _ K1.out K2.out HP.out (by omega) (by omega)).mono ?_); rintro e w3 ⟨r3, rfl, hr3, hb3⟩; rw [HQ.out] at hr3; obtain ⟨s3, a3, n3, c3', b3, m3, d3, rfl, KR⟩ := hr3.shape; clear hr3; have KW := Lib.hid (KW.out.trans (hb3.mono KW.out.size)); have PO := Lib.hid (PO.out.below hb3 PO.out.lt); obtain ⟨x0, x1, x2, x3, xf, xl⟩ := PO.out))
  all_goals (try go_wp2)
  all_goals
   refine bodyPost_ret (v := .agg #[.bool s3, .slice a3 n3 c3', .bool false, .slice b3 m3 d3]) (by simp [results, Tryz.results70, go_sem, x0, x1, x2, x3, xf]) rfl ?_
   exact ⟨_, rfl, RatIs.into KR.out _ _ _ _ PO.out, below_set4 KW.out (by omega) _ _ _ _⟩
end Go.Proofs.YtcnaagiicpkcpaaGreat

/- read of package debt, at a market that is one. -/
namespace Go.Proofs.YtcnaagiicpkcpaaGreat
open Go.RowKit
attribute [local go_sem ↓] Go.wp_at_zero Go.wp_at_succ
theorem Mat.row_len {w : World} {v : Value} {n : Nat} {m m' : Nat → Nat} {f : Nat → Nat → Int} (h : Mat w v n m f) (hm : ∀ i, i < n → m i = m' i) : Mat w v n m' f := by
 obtain ⟨a, b, o, c, ra, rb, ro, rc, rfl, h⟩ := h
 exact ⟨a, b, o, c, ra, rb, ro, rc, rfl, ⟨h.top.congr (fun i hi => by rw [hm i hi]), fun i hi => by rw [← hm i hi]; exact h.row i hi⟩⟩
theorem Own4.put3 {w : World} {b : Nat} {x y z u : Value} (h : Own4 w b x y z u) (v : Value) : Own4 (w.setCell ⟨b, 3, none⟩ v) b x y z v :=
 ⟨off_set (by decide) h.c0, off_set (by decide) h.c1, off_set (by decide) h.c2, self_set h.c3, fun o => by rw [World.frozen?_setCell]; exact h.f o, by simp only [World.setCell, Array.size_modify]; exact h.lt⟩
theorem own_block {w w' : World} {b : Nat} {row : Option Nat} {x y z u : Value} (h : Own4 w b x y z u) (hg : w.grownBy w' row) (hne : some b ≠ row) : Own4 w' b x y z u :=
 have e := hg.block b h.lt hne
 have c : ∀ o, w'.cell? ⟨b, o, none⟩ = w.cell? ⟨b, o, none⟩ := fun o => World.cell?_of_block (a := ⟨b, o, none⟩) e
 ⟨(c 0).trans h.c0, (c 1).trans h.c1, (c 2).trans h.c2, (c 3).trans h.c3, fun o => (World.frozen?_of_block (a := ⟨b, o, none⟩) e).trans (h.f o), Nat.lt_of_lt_of_le h.lt hg.size⟩
set_option maxHeartbeats 4000000 in
set_option maxRecDepth 100000 in
theorem read_ok (vc vd : Value) (n : Nat) (cash : Nat → Int) (m : Nat → Nat) (d : Nat → Nat → Int) (w : World) (hc : Ints w vc n cash) (hd : Mat w vd n m d) (hD : Debts n m d) (hC : ∀ i, i < n → 0 ≤ cash i ∧ cash i ≤ 1000) :
  Calls Tryz.prog 35 #[vc, vd] w fun e w' => ∃ b vt, e = .returned (.tuple #[.pointer (some ⟨b, 0, none⟩), .bool true]) ∧ IsMkt w' b n cash d vc vd vt ∧ Below w.heap.size w w' := by
 have HC := Lib.hid hc
 have HDM := Lib.hid hd
 have HDB := Lib.hid hD
 have HCB := Lib.hid hC
 have hn8 : n ≤ 8 := hD.2.1
 obtain ⟨ca, cb, co, cc, rfl, hcs⟩ := hc
 obtain ⟨da, db, d_o, dc, ra, rb, ro, rc, rfl, hdm⟩ := hd
 have HM := Lib.hid (show ∀ i, i < n → m i = n from fun i hi => (hD.2.2 i hi).1)
 have HV := Lib.hid (show ∀ i j, i < n → j < n → 0 ≤ d i j ∧ d i j ≤ 1000 from fun i j hi hj => (hD.2.2 i hi).2.2 j hj)
 have hneq : (((n : Nat) : Int) != ((n : Nat) : Int)) = false := by simp
 obtain ⟨i0, hi, hz0, hz1, hz2⟩ := info_parts infoI
 clear hD hC hcs
 go_enter Tryz.func35, Tryz.ntmps35
 go_wp2_with (first
  | (go_at_call 38; (with_reducible refine (square_any _ n m d true ⟨fun _ => HDB.out, fun _ => rfl⟩ _ HDM.out (by omega) (fun i hi => by rw [HM.out i hi]; omega)).mono ?_); rintro e w1 ⟨rfl, hd1⟩)
  | (go_at_call 52; (with_reducible refine (within_any _ n cash true ⟨fun _ => HCB.out, fun _ => rfl⟩ _ (HC.out.drawn hd1) (by omega)).mono ?_); rintro e w2 ⟨rfl, hd2⟩))
 have hsz : w.heap.size = w2.heap.size := by obtain ⟨k1, rfl⟩ := hd1; obtain ⟨k2, rfl⟩ := hd2; simp
 have KW := Lib.hid (((hd1.below w.heap.size).trans (hd2.below w.heap.size)).alloc (Nat.le_of_eq hsz) (.cells #[.int .i64 (n : Nat), .slice ca n cc, .slice da n dc, .slice none 0 0] 89))
 have PM := Lib.hid (own4_new w2 _ rfl (.int .i64 (n : Nat)) (.slice ca n cc) (.slice da n dc) (.slice none 0 0) 89)
 generalize hmb : w2.heap.size = mb at *
 have hmb2 := Lib.hid hmb
 clear hmb
 go_loopw [35] (fun v35 wr => ∃ k : Nat, k ≤ n ∧ v35 = .int .i64 (k : Nat) ∧ ∃ va vk, Hid (wr.ownsRow (mb + 1) 3 1 (.slice va k vk) k (ics (fun i => sumF (d i) n) k)) ∧ Hid (Own4 wr mb (.int .i64 (n : Nat)) (.slice ca n cc) (.slice da n dc) (.slice va k vk)) ∧ Hid (Below w.heap.size w wr)) (fun v35 _ => n - (intOf v35).toNat)
 case atStart => exact ⟨0, by omega, rfl, none, 0, Lib.hid (World.ownsRow_nil _ _ _ _), PM, KW⟩
 case round =>
  clear PM KW
  obtain ⟨k, hk, rfl, va, vk, OW, PM, KW⟩ := hrel
  by_cases h : k < n
  ·have hdr := hdm.mono KW.out (Nat.le_refl _)
   have hix := fun W => ixM hdr.top k dc h W
   have hcr := hdr.top.cell k h
   have hrow := hdr.row k h
   have HROW := Lib.hid hrow
   have hmk := HM.out k h
   rw [hmk] at hcr
   clear hdr hrow hmk
   obtain ⟨p0, p1, p2, p3, pf, pl⟩ := PM.out
   go_wp2
   go_loop [9, 41] (fun v9 v41 => ∃ l : Nat, l ≤ n ∧ v41 = .int .i64 (l : Nat) ∧ v9 = .int .i64 (sumF (d k) l)) (fun _ v41 => n - (intOf v41).toNat)
   case atStart => exact ⟨0, by omega, rfl, rfl⟩
   case round =>
    obtain ⟨l, hl, rfl, rfl⟩ := hrel
    by_cases h2 : l < n
    ·have hrow := HROW.out
     rw [HM.out k h] at hrow
     have hjx := fun W => ixI hrow l (rc k) h2 W
     have hjc := hrow.cell l h2
     simp only [ic] at hjc
     obtain ⟨v1, v2⟩ := HV.out k l h h2
     obtain ⟨s1, s2⟩ := sumF_bound (d k) l 1000 (fun i hi => by have := HV.out k i h (by omega); omega)
     have s3 : -(8000 : Int) ≤ sumF (d k) l := by omega
     have s4 : sumF (d k) l ≤ 8000 := by omega
     clear s1 s2 hrow
     go_wp2
     go_round
     case rel => exact ⟨l + 1, by omega, by go_num, rfl⟩
     case measure => simp [intOf]; omega
    ·obtain rfl : l = n := by omega
     clear hix hcr
     have hbase : mb + 1 ≤ (wr.alloc (.cells #[.int .i64 (sumF (d k) l)] 3)).heap.size := by simp; omega
     have hnews : ∀ j u, [Value.int .i64 (sumF (d k) l)][j]? = some u → (wr.alloc (.cells #[.int .i64 (sumF (d k) l)] 3)).cell? ((⟨wr.heap.size, 0, none⟩ : Addr).add j) = some u := fun j u hj => by
      match j, hj with
      | 0, hj => simp at hj; subst hj; simp [go_sem, Addr.add]
     have hone : ∀ u ∈ [Value.int .i64 (sumF (d k) l)], u.oneCell' = true := fun u hu => by simp at hu; subst hu; rfl
     have HBS := Lib.hid hbase
     have HNW := Lib.hid hnews
     have HON := Lib.hid hone
     clear hbase hnews hone
     go_wp2_with (at_builtin; refine wpList_append_own _ rfl (.tmp 53) (.tmp 55) 22 rfl (mb + 1) 3 i0 (.int .i64 0) 1 8 Tryz.underlying22 hi hz0 hz1 hz2 rfl (by decide) (.slice va k vk) k (ics (fun i => sumF (d i) l) k) rfl (OW.out.alloc _) ⟨wr.heap.size, 0, none⟩ 1 1 [.int .i64 (sumF (d k) l)] rfl rfl HNW.out HON.out (by unfold maxLen; omega) (by omega) HBS.out ?_; intro v' w3 hown hgrow _; have hbk := (OW.out.alloc (.cells #[.int .i64 (sumF (d k) l)] 3)).lt; have PM := Lib.hid (own_block (PM.out.alloc _) hgrow (fun e => by have := (hbk mb e.symm).1; omega)); have KW := Lib.hid ((KW.out.alloc KW.out.size _).grown hgrow (by have := KW.out.size; simp; omega) (fun kk e => by have := (hbk kk e).1; have := hmb2.out; omega)); rw [ics_succ] at hown; obtain ⟨va', vk', rfl⟩ := own_shape hown; have OW := Lib.hid hown; obtain ⟨q0, q1, q2, q3, qf, ql⟩ := PM.out; clear hown hgrow hbk)
     go_roundw
     case rel =>
      refine ⟨k + 1, by omega, by go_num, va', vk', ?_, ?_, ?_⟩
      ·exact Lib.hid (OW.out.kept (row := some mb) (grown_set (World.grownBy.refl _ _) 3 _) (by
        rcases hb : (Value.slice va' (k + 1) vk').ownBlock with _ | g
        ·exact .inl rfl
        ·right; intro e; have := (OW.out.lt g hb).1; have e2 := Option.some.inj e; omega))
      ·exact Lib.hid (PM.out.put3 _)
      ·exact Lib.hid (KW.out.setCell (by show w.heap.size ≤ mb; omega) _)
     case measure => simp [intOf]; omega
  ·obtain rfl : k = n := by omega
   go_wp2
   go_ret2
   refine ⟨mb, _, rfl, ⟨PM.out.c0, PM.out.c1, PM.out.c2, PM.out.c3, HC.out.mono KW.out (Nat.le_refl _), ?_, ints_of_own OW.out, PM.out.lt⟩, KW.out⟩
   have h := HDM.out.mono KW.out (Nat.le_refl _)
   exact h.row_len HM.out
end Go.Proofs.YtcnaagiicpkcpaaGreat

/- Plain: sums of rational numbers, and shares that leave no closed set of firms. -/
namespace Go.Proofs.YtcnaagiicpkcpaaGreat
def sumQ (f : Nat → Rat) : Nat → Rat
 | 0 => 0
 | n + 1 => sumQ f n + f n
theorem sumQ_congr {f g : Nat → Rat} : ∀ n, (∀ i, i < n → f i = g i) → sumQ f n = sumQ g n
 | 0, _ => rfl
 | n + 1, h => by simp only [sumQ]; rw [sumQ_congr n (fun i hi => h i (by omega)), h n (by omega)]
theorem sumQ_add (f g : Nat → Rat) : ∀ n, sumQ (fun i => f i + g i) n = sumQ f n + sumQ g n
 | 0 => by simp only [sumQ]; grind
 | n + 1 => by simp only [sumQ]; rw [sumQ_add f g n]; grind
theorem sumQ_mul (c : Rat) (f : Nat → Rat) : ∀ n, sumQ (fun i => c * f i) n = c * sumQ f n
 | 0 => by simp only [sumQ]; grind
 | n + 1 => by simp only [sumQ]; rw [sumQ_mul c f n]; grind
theorem sumQ_sub (f g : Nat → Rat) : ∀ n, sumQ (fun i => f i - g i) n = sumQ f n - sumQ g n
 | 0 => by simp only [sumQ]; grind
 | n + 1 => by simp only [sumQ]; rw [sumQ_sub f g n]; grind
theorem sumQ_zero : ∀ n, sumQ (fun _ => 0) n = 0
 | 0 => rfl
 | n + 1 => by simp only [sumQ]; rw [sumQ_zero n]; grind
theorem sumQ_eq_zero {f : Nat → Rat} (n : Nat) (h : ∀ i, i < n → f i = 0) : sumQ f n = 0 := (sumQ_congr n h).trans (sumQ_zero n)
theorem sumQ_le {f g : Nat → Rat} : ∀ n, (∀ i, i < n → f i ≤ g i) → sumQ f n ≤ sumQ g n
 | 0, _ => by simp only [sumQ]; grind
 | n + 1, h => by
  have h1 := sumQ_le n (fun i hi => h i (by omega))
  have h2 := h n (by omega)
  simp only [sumQ]; grind
theorem sumQ_nonneg {f : Nat → Rat} (n : Nat) (h : ∀ i, i < n → 0 ≤ f i) : 0 ≤ sumQ f n := by
 have := sumQ_le (f := fun _ => 0) (g := f) n h
 rwa [sumQ_zero] at this
theorem sumQ_le_eq {f g : Nat → Rat} : ∀ n, (∀ i, i < n → f i ≤ g i) → sumQ g n ≤ sumQ f n → ∀ i, i < n → f i = g i
 | 0, _, _ => fun i hi => by omega
 | n + 1, h, h2 => fun i hi => by
  have h1 := sumQ_le n (fun i hi => h i (by omega))
  have h3 := h n (by omega)
  simp only [sumQ] at h2
  by_cases e : i = n
  ·subst e; grind
  ·exact sumQ_le_eq n (fun i hi => h i (by omega)) (by grind) i (by omega)
theorem sumQ_swap (f : Nat → Nat → Rat) (m : Nat) : ∀ n, sumQ (fun i => sumQ (fun j => f i j) m) n = sumQ (fun j => sumQ (fun i => f i j) n) m
 | 0 => by simp only [sumQ]; rw [sumQ_zero]
 | n + 1 => by
  simp only [sumQ]
  rw [sumQ_swap f m n, sumQ_add]
theorem sumQ_one (f : Nat → Rat) (k : Nat) : ∀ n, k < n → (∀ i, i < n → i ≠ k → f i = 0) → sumQ f n = f k
 | 0, h, _ => by omega
 | n + 1, h, hz => by
  simp only [sumQ]
  by_cases e : k = n
  ·subst e
   rw [sumQ_eq_zero k (fun i hi => hz i (by omega) (by omega))]; grind
  ·rw [sumQ_one f k n (by omega) (fun i hi => hz i (by omega)), hz n (by omega) (by omega)]; grind
/-- shares: what part of its payments firm j pays to firm i -/
structure Shr (n : Nat) (S : Nat → Nat → Rat) : Prop where
 pos : ∀ j i, 0 ≤ S j i
 one : ∀ j, j < n → sumQ (fun i => S j i) n ≤ 1
/-- no firms of F owe all that they owe to each other -/
def NoClosed (n : Nat) (S : Nat → Nat → Rat) (F : Nat → Prop) : Prop :=
 ∀ Z : Nat → Prop, (∀ i, Z i → i < n ∧ F i) → (∀ j, Z j → sumQ (fun i => S j i) n = 1 ∧ ∀ i, i < n → ¬ Z i → S j i = 0) → ∀ i, ¬ Z i
theorem kernel {n : Nat} {S : Nat → Nat → Rat} {F : Nat → Prop} (hS : Shr n S) (hF : NoClosed n S F) (u : Nat → Rat) (h0 : ∀ i, 0 ≤ u i) (hs : ∀ i, i < n → ¬ F i → u i = 0)
  (hle : ∀ i, i < n → F i → u i ≤ sumQ (fun j => u j * S j i) n) : ∀ i, i < n → u i = 0 := by
 have hr : ∀ i, i < n → u i ≤ sumQ (fun j => u j * S j i) n := fun i hi => by
  by_cases h : F i
  ·exact hle i hi h
  ·rw [hs i hi h]
   exact sumQ_nonneg n (fun j _ => Rat.mul_nonneg (h0 j) (hS.pos j i))
 have h1 : sumQ (fun i => sumQ (fun j => u j * S j i) n) n = sumQ (fun j => u j * sumQ (fun i => S j i) n) n := by
  rw [sumQ_swap (fun i j => u j * S j i)]
  exact sumQ_congr n (fun j _ => sumQ_mul _ _ _)
 have h2 : ∀ j, j < n → u j * sumQ (fun i => S j i) n ≤ u j := fun j hj => by
  have := Rat.mul_le_mul_of_nonneg_left (hS.one j hj) (h0 j)
  grind
 have h3 := sumQ_le n h2
 have h4 := sumQ_le n hr
 have h5 := sumQ_le_eq n hr (by grind)
 have h6 := sumQ_le_eq n h2 (by grind)
 have := hF (fun i => i < n ∧ u i ≠ 0) (fun i hi => ⟨hi.1, Classical.byContradiction (fun h => hi.2 (hs i hi.1 h))⟩) (fun j hj => by
  refine ⟨?_, fun i hi hn => ?_⟩
  ·have := h6 j hj.1
   have e := hj.2
   grind
  ·have hu : u i = 0 := Classical.byContradiction (fun h => hn ⟨hi, h⟩)
   have hz := h5 i hi
   rw [hu] at hz
   have hz2 := sumQ_le_eq (f := fun _ => 0) (g := fun j => u j * S j i) n (fun j _ => Rat.mul_nonneg (h0 j) (hS.pos j i)) (by rw [sumQ_zero, ← hz]; exact Rat.le_refl) j hj.1
   have e := hj.2
   grind)
 intro i hi
 exact Classical.byContradiction (fun h => this i ⟨hi, h⟩)
/-- what is above 0 of a number -/
def up0 (x : Rat) : Rat := if 0 ≤ x then x else 0
theorem up0_nonneg (x : Rat) : 0 ≤ up0 x := by unfold up0; split <;> grind
theorem up0_ge (x : Rat) : x ≤ up0 x := by unfold up0; split <;> grind
theorem up0_le {x y : Rat} (h : x ≤ y) (hy : 0 ≤ y) : up0 x ≤ y := by unfold up0; split <;> grind
theorem up0_zero {x : Rat} (h : up0 x = 0) : x ≤ 0 := by have := up0_ge x; grind
/-- a vector that is at or below what it brings about, in F, is at or below 0 -/
theorem below_zero {n : Nat} {S : Nat → Nat → Rat} {F : Nat → Prop} (hS : Shr n S) (hF : NoClosed n S F) (d : Nat → Rat) (hs : ∀ i, i < n → ¬ F i → d i ≤ 0)
  (hle : ∀ i, i < n → F i → d i ≤ sumQ (fun j => d j * S j i) n) : ∀ i, i < n → d i ≤ 0 := by
 have h := kernel hS hF (fun i => up0 (d i)) (fun i => up0_nonneg _) (fun i hi hn => by
  have := hs i hi hn
  show up0 (d i) = 0
  unfold up0
  split <;> grind) (fun i hi hf => by
  refine up0_le (Rat.le_trans (hle i hi hf) (sumQ_le n (fun j _ => Rat.mul_le_mul_of_nonneg_right (up0_ge _) (hS.pos j i)))) (sumQ_nonneg n (fun j _ => Rat.mul_nonneg (up0_nonneg _) (hS.pos j i))))
 exact fun i hi => up0_zero (h i hi)
end Go.Proofs.YtcnaagiicpkcpaaGreat

/- has of package debt: what a firm has. -/
namespace Go.Proofs.YtcnaagiicpkcpaaGreat
open Go.RowKit
attribute [local go_sem ↓] Go.wp_at_zero Go.wp_at_succ
theorem rats_s : Tryz.prog.underlying 68 = some (.slice (Tryz.prog.elem 68)) := by kernel_rfl
theorem rats_z (W : World) : (sizeOf (Tryz.prog.elem 68)).run Tryz.prog W = .ok 4 W := by kernel_rfl
theorem ixR (b o n c i : Nat) (hi : i < n) (W : World) :
  (Instr.indexAt 68 (.slice (some ⟨b, o, none⟩) n c) (.int .i64 (i : Int))).run Tryz.prog W = .ok (.pointer (some ⟨b, o + i * 4, none⟩)) W := by
 rw [run_indexAt_slice W _ _ _ _ _ _ rats_s, if_pos ⟨by omega, by omega⟩, rats_z]
 simp only [Result.andThen, Int.toNat_natCast]
 congr 3
 unfold Addr.add
 split
 ·rename_i h; simp [show i = 0 by omega]
 ·rfl
theorem Rd4.drew {w : World} {b o : Nat} {x y z u : Value} (h : Rd4 w b o x y z u) : Rd4 w.drew b o x y z u := ⟨h.c0, h.c1, h.c2, h.c3, h.lt⟩
/-- n Rats in a row -/
def IsRats (w : World) (pb po n : Nat) (q : Nat → Rat) (K : Nat) : Prop :=
 ∀ j, j < n → ∃ s a m c a2 m2 c2, Rd4 w pb (po + j * 4) (.bool s) (.slice a m c) (.bool false) (.slice a2 m2 c2) ∧ RatIs w (.agg #[.bool s, .slice a m c, .bool false, .slice a2 m2 c2]) (q j) K
theorem IsRats.mono {w w' : World} {pb po n K B : Nat} {q : Nat → Rat} (h : IsRats w pb po n q K) (hb : Below B w w') (hB : w.heap.size ≤ B) : IsRats w' pb po n q K := fun j hj => by
 obtain ⟨s, a, m, c, a2, m2, c2, h1, h2⟩ := h j hj
 exact ⟨s, a, m, c, a2, m2, c2, h1.below hb (Nat.lt_of_lt_of_le h1.lt hB), h2.mono hb hB⟩
/-- what firm i has: its cash and what it receives -/
def hasQ (n : Nat) (cash : Nat → Int) (d : Nat → Nat → Int) (q : Nat → Rat) (i : Nat) : Rat :=
 (cash i : Rat) + sumQ (fun j => q j * shareQ (sumF (d j) n) (d j i)) n
/-- a Rat stored into a block of the call's own that holds another one -/
theorem RatIs.into' {w : World} {v : Value} {q : Rat} {m b : Nat} {s a c a2 c2 : _} {n n2 : Nat} (h : RatIs w v q m) (u0 u1 u2 u3 : Value) (ho : Own4 w b (.bool s) (.slice a n c) (.bool false) (.slice a2 n2 c2)) :
  RatIs ((((w.setCell ⟨b, 0, none⟩ u0).setCell ⟨b, 1, none⟩ u1).setCell ⟨b, 2, none⟩ u2).setCell ⟨b, 3, none⟩ u3) v q m :=
 h.store4 u0 u1 u2 u3 ho.c0 ho.c1 ho.c2 ho.c3 (noInt_bool _) (noInt_slice _ _ _) (noInt_bool _) (noInt_slice _ _ _)
set_option maxHeartbeats 4000000 in
theorem has_any (b n i : Nat) (cash : Nat → Int) (d : Nat → Nat → Int) (vc vd vt : Value) (w : World) (hm : IsMkt w b n cash d vc vd vt) (hi : i < n) (hn : n ≤ 8)
  (hD : ∀ j, j < n → 0 ≤ d j i ∧ d j i ≤ 1000 ∧ 0 ≤ sumF (d j) n ∧ sumF (d j) n ≤ 100000) (hC : 0 ≤ cash i ∧ cash i ≤ 100000)
  (pb po pc : Nat) (q : Nat → Rat) (K : Nat) (hp : IsRats w pb po n q K) (hK : 4 ≤ K) (hK2 : K ≤ 268435456) :
  Calls Tryz.prog 54 #[.pointer (some ⟨b, 0, none⟩), .int .i64 (i : Nat), .slice (some ⟨pb, po, none⟩) n pc] w fun e w' => ∃ r, e = .returned r ∧ RatIs w' r (hasQ n cash d q i) (512 * (K + 1)) ∧ Below w.heap.size w w' := by
 have HM := Lib.hid hm
 have HPR := Lib.hid hp
 have HD := Lib.hid hD
 obtain ⟨c0, c1, c2, c3, ⟨ca, cb, co, cc, rfl, hcs⟩, -, -, hlt⟩ := hm
 clear hp hD c2 c3
 have ixc := fun W => ixI hcs i cc hi W
 have hcc := hcs.cell i hi
 have hclt := hcs.lt (by omega)
 simp only [ic] at hcc
 obtain ⟨hC0, hC1⟩ := hC
 have hlen : 0 < n := by omega
 have KW : Hid (Below w.heap.size w (w.alloc (Obj.cells #[.bool false, .slice none 0 0, .bool false, .slice none 0 0] 95))) := boxes1 w _
 have PO : Hid (Own4 (w.alloc (Obj.cells #[.bool false, .slice none 0 0, .bool false, .slice none 0 0] 95)) w.heap.size (.bool false) (.slice none 0 0) (.bool false) (.slice none 0 0)) := own4_new _ _ rfl _ _ _ _ _
 have keepS : Hid (∀ w', Below w.heap.size w w' → w'.cell? ⟨b, 0, none⟩ = some (.int .i64 (n : Nat)) ∧ w'.cell? ⟨b, 1, none⟩ = some (.slice ca n cc) ∧ w'.cell? ⟨cb, co + i, none⟩ = some (.int .i64 (cash i))) :=
  Lib.hid (fun w' hb => ⟨bel1 hb c0 hlt, bel1 hb c1 hlt, bel1 hb hcc hclt⟩)
 clear hcs c0 c1 hcc
 obtain ⟨c0, c1, hcc⟩ := keepS.out _ KW.out
 go_enter Tryz.func54, Tryz.ntmps54
 go_wp2_with (first
   | (go_at_call 56; (with_reducible refine (rat_whole (cash i) (by omega) (by omega) _).mono ?_); rintro e w1 ⟨r1, rfl, hr1, hb1⟩; obtain ⟨s1, a1, n1, c1', b1, m1, d1, rfl, KR⟩ := hr1.shape; clear hr1; have KW := Lib.hid (KW.out.trans (hb1.mono KW.out.size)); have PO := Lib.hid (PO.out.below hb1 PO.out.lt); clear c0 c1 hcc; obtain ⟨c0, c1, hcc⟩ := keepS.out _ KW.out; have hz1 : w.heap.size < w1.heap.size := PO.out.lt; have hblt : b < w1.heap.size := (by omega)))
 have PS : Hid (Own4 (w1.alloc (Obj.cells #[.bool s1, .slice a1 n1 c1', .bool false, .slice b1 m1 d1] 95)) w1.heap.size (.bool s1) (.slice a1 n1 c1') (.bool false) (.slice b1 m1 d1)) := own4_new _ _ rfl _ _ _ _ _
 have KWA : Hid (Below w.heap.size w (w1.alloc (Obj.cells #[.bool s1, .slice a1 n1 c1', .bool false, .slice b1 m1 d1] 95))) := KW.out.alloc KW.out.size _
 have POA : Hid (Own4 (w1.alloc (Obj.cells #[.bool s1, .slice a1 n1 c1', .bool false, .slice b1 m1 d1] 95)) w.heap.size (.bool false) (.slice none 0 0) (.bool false) (.slice none 0 0)) := PO.out.alloc _
 have KRA := Lib.hid (KR.out.mono (boxes1 w1 (Obj.cells #[.bool s1, .slice a1 n1 c1', .bool false, .slice b1 m1 d1] 95)) (Nat.le_refl _))
 have HPW : ∀ k, k ≤ n → 2 ^ k * (2 * K + 2) ≤ 256 * (2 * K + 2) ∧ 2 * K + 2 ≤ 2 ^ k * (2 * K + 2) := fun k hk => by
  have h1 : 2 ^ k ≤ 2 ^ 8 := Nat.pow_le_pow_right (by omega) (by omega)
  have h2 : 1 ≤ 2 ^ k := Nat.one_le_two_pow
  exact ⟨Nat.mul_le_mul_right _ h1, by have := Nat.mul_le_mul_right (2 * K + 2) h2; omega⟩
 have HPW := Lib.hid HPW
 have hsb := hz1
 clear PS KW PO KR hb1 c0 c1 hcc ixc
 go_loopw [8, 21] (fun v8 v21 wr => ∃ k : Nat, k ≤ n ∧ v21 = .int .i64 (k : Nat) ∧ ∃ s a m c a2 m2 c2 B, Hid (Own4 wr w1.heap.size (.bool s) (.slice a m c) (.bool false) (.slice a2 m2 c2)) ∧
   Hid (RatIs wr (.agg #[.bool s, .slice a m c, .bool false, .slice a2 m2 c2]) ((cash i : Rat) + sumQ (fun j => q j * shareQ (sumF (d j) n) (d j i)) k) B) ∧ Hid (B + 1 = 2 ^ k * (2 * K + 2)) ∧
   Hid (Own4 wr w.heap.size (.bool false) (.slice none 0 0) (.bool false) (.slice none 0 0)) ∧ Hid (Below w.heap.size w wr)) (fun _ v21 _ => n - (intOf v21).toNat)
 case atStart =>
  refine ⟨0, by omega, rfl, s1, a1, n1, c1', b1, m1, d1, 2 * K + 1, own4_new _ _ rfl _ _ _ _ _, ?_, ?_, POA, KWA⟩
  ·exact Lib.hid (by rw [sumQ, Rat.add_zero]; exact KRA.out.le (by omega))
  ·exact Lib.hid (by rw [Nat.pow_zero, Nat.one_mul])
 case round =>
  obtain ⟨k, hk, rfl, s, a, m, c, a2, m2, c2, B, PS, KS, HB, PO, KW⟩ := hrel
  by_cases h : k < n
  ·obtain ⟨s', a', m', c', a2', m2', c2', PP, KP⟩ := (HPR.out.mono KW.out (Nat.le_refl _)) k h
   have PP := Lib.hid PP
   have KP := Lib.hid KP
   have hb1 := HPW.out k hk
   have hb2 := HB.out
   have hBK : 2 * K + 1 ≤ B := by omega
   have hBb : 2 * B + 1 ≤ 549755813888 := by omega
   clear hb1 hb2
   obtain ⟨hd1, hd2, hd3, hd4⟩ := HD.out k h
   have HD4 := Lib.hid (show 0 ≤ d k i ∧ d k i ≤ 1000 ∧ 0 ≤ sumF (d k) n ∧ sumF (d k) n ≤ 100000 from ⟨hd1, hd2, hd3, hd4⟩)
   clear hd1 hd2 hd3 hd4
   have ixr := fun W => ixR pb po n pc k h W
   have PS0 := PS
   have PS := Lib.hid PS.out.drew
   have PO := Lib.hid PO.out.drew
   have KS := Lib.hid (KS.out.drew)
   have KP := Lib.hid (KP.out.drew)
   have PP0 := PP
   have PP := Lib.hid PP.out.drew
   have KW := Lib.hid KW.out.drew
   have HMk := Lib.hid (HM.out.mono KW.out (Nat.le_refl _))
   obtain ⟨x0, x1, x2, x3, xf, xl⟩ := PS0.out
   obtain ⟨y0, y1, y2, y3, yl⟩ := PP0.out
   go_wp2
   go_region_with (first
    | (go_at_call 70; go_loud ((with_reducible refine (share_any b n k i cash d _ _ _ _ HMk.out h hi HD4.out.1 HD4.out.2.1 HD4.out.2.2.1 HD4.out.2.2.2).mono ?_); rintro e w2 ⟨r2, rfl, hr2, hb2⟩; have KS := Lib.hid (KS.out.mono hb2 (Nat.le_refl _)); have KP := Lib.hid (KP.out.mono hb2 (Nat.le_refl _)); have PP := Lib.hid (PP.out.below hb2 PP.out.lt); obtain ⟨s2, e2, n2, f2, b2, m2x, d2, rfl, KH⟩ := hr2.shape; clear hr2; have KW := Lib.hid (KW.out.trans (hb2.mono KW.out.size)); have PO := Lib.hid (PO.out.below hb2 PO.out.lt); have PS := Lib.hid (PS.out.below hb2 PS.out.lt); obtain ⟨u0, u1, u2, u3, uf, ul⟩ := PS.out; obtain ⟨v0, v1, v2, v3, vl⟩ := PP.out))
    | (go_at_call 74; (with_reducible refine (rat_mul _ _ (q k) (shareQ (sumF (d k) n) (d k i)) K _ KP.out (KH.out.le hK) (by omega) (by omega)).mono ?_); rintro e w3 ⟨r3, rfl, hr3, hb3⟩; have KS := Lib.hid (KS.out.mono hb3 (Nat.le_refl _)); obtain ⟨s3, e3, n3, f3, b3, m3x, d3, rfl, KM⟩ := hr3.shape; clear hr3; have KW := Lib.hid (KW.out.trans (hb3.mono KW.out.size)); have PO := Lib.hid (PO.out.below hb3 PO.out.lt); have PS := Lib.hid (PS.out.below hb3 PS.out.lt); obtain ⟨g0, g1, g2, g3, gf, gl⟩ := PS.out)
    | (go_at_call 73; (with_reducible refine (rat_add _ _ _ (q k * shareQ (sumF (d k) n) (d k i)) B _ KS.out (KM.out.le (by omega)) (by omega) hBb).mono ?_); rintro e w4 ⟨r4, rfl, hr4, hb4⟩; obtain ⟨s4, e4, n4, f4, b4, m4x, d4, rfl, KA⟩ := hr4.shape; clear hr4; have KW := Lib.hid (KW.out.trans (hb4.mono KW.out.size)); have PO := Lib.hid (PO.out.below hb4 PO.out.lt); have PS := Lib.hid (PS.out.below hb4 PS.out.lt); obtain ⟨t0, t1, t2, t3, tf, tl⟩ := PS.out))
   all_goals go_wp2
   all_goals
    go_roundw
    case rel =>
     refine ⟨k + 1, by omega, by go_num, s4, e4, n4, f4, b4, m4x, d4, 2 * B + 1, PS.out.anew _ _ _ _, Lib.hid ?_, Lib.hid ?_, PO.out.set4 _ _ _ _ _ (by omega), below_set4 KW.out (by omega) _ _ _ _⟩
     ·rw [sumQ, ← Rat.add_assoc]
      exact RatIs.into' KA.out _ _ _ _ PS.out
     ·have := HB.out
      rw [Nat.pow_succ, Nat.mul_comm (2 ^ k) 2, Nat.mul_assoc]; omega
    case measure => simp [intOf]; omega
  ·obtain rfl : k = n := by omega
   obtain ⟨x0, x1, x2, x3, xf, xl⟩ := PS.out
   obtain ⟨y0, y1, y2, y3, yf, yl⟩ := PO.out
   have hb1 := (HPW.out k hk).1
   have hb2 := HB.out
   have hB : B ≤ 512 * (K + 1) := by omega
   clear hb1 hb2
   go_wp2
   refine bodyPost_ret (v := .agg #[.bool s, .slice a m c, .bool false, .slice a2 m2 c2]) (by simp [results, Tryz.results54, go_sem, y0, y1, y2, y3, yf]) rfl ?_
   exact ⟨_, rfl, RatIs.into (KS.out.le hB) _ _ _ _ PO.out, below_set4 KW.out (by omega) _ _ _ _⟩
end Go.Proofs.YtcnaagiicpkcpaaGreat
