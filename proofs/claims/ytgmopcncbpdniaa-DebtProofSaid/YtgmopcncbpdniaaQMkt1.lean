/- A market in memory; share of package debt. -/
import Derived.Test.YtgmopcncbpdniaaQText
import Derived.Test.YtgmopcncbpdniaaQMat
set_option linter.unusedVariables false
set_option linter.unusedSimpArgs false
namespace Go.Proofs.Ytgmopcncbpdniaa
open Go.RowKit
attribute [local go_sem ↓] Go.wp_at_zero Go.wp_at_succ

/-- a market: its number of firms, their cash, their debts and what they owe in all -/
structure IsMkt (w : World) (b n : Nat) (cash : Nat → Int) (d : Nat → Nat → Int) (vc vd vt : Value) : Prop where
  c0 : w.cell? ⟨b, 0, none⟩ = some (.int .i64 (n : Nat))
  c1 : w.cell? ⟨b, 1, none⟩ = some vc
  c2 : w.cell? ⟨b, 2, none⟩ = some vd
  c3 : w.cell? ⟨b, 3, none⟩ = some vt
  hcash : Ints w vc n cash
  hdebt : Mat w vd n (fun _ => n) d
  htot : Ints w vt n (fun i => sumF (d i) n)
  lt : b < w.heap.size

theorem IsMkt.mono {w w' : World} {b n : Nat} {cash : Nat → Int} {d : Nat → Nat → Int} {vc vd vt : Value} {B : Nat} (h : IsMkt w b n cash d vc vd vt) (hb : Below B w w') (hB : w.heap.size ≤ B) : IsMkt w' b n cash d vc vd vt :=
  have k : ∀ o, w'.cell? ⟨b, o, none⟩ = w.cell? ⟨b, o, none⟩ := fun o => hb.cell (p := ⟨b, o, none⟩) (Nat.lt_of_lt_of_le h.lt hB)
  ⟨(k 0).trans h.c0, (k 1).trans h.c1, (k 2).trans h.c2, (k 3).trans h.c3, h.hcash.mono hb hB, h.hdebt.mono hb hB, h.htot.mono hb hB, Nat.lt_of_lt_of_le h.lt hb.size⟩

/-- the part of its payments t that a firm pays to one to which it owes x -/
def shareQ (t x : Int) : Rat := if t = 0 then 0 else (x : Rat) / (t : Rat)

theorem bel1 {w w' : World} {B : Nat} {b o : Nat} {v : Value} (hb : Below B w w') (h : w.cell? ⟨b, o, none⟩ = some v) (hB : b < B) : w'.cell? ⟨b, o, none⟩ = some v := (hb.cell (p := ⟨b, o, none⟩) hB).trans h

set_option maxHeartbeats 2000000 in
theorem share_any (b n i j : Nat) (cash : Nat → Int) (d : Nat → Nat → Int) (vc vd vt : Value) (w : World) (hm : IsMkt w b n cash d vc vd vt) (hi : i < n) (hj : j < n)
    (hd0 : 0 ≤ d i j) (hd1 : d i j ≤ 1000) (ht0 : 0 ≤ sumF (d i) n) (ht1 : sumF (d i) n ≤ 100000) :
    Calls Try.prog 60 #[.pointer (some ⟨b, 0, none⟩), .int .i64 (i : Nat), .int .i64 (j : Nat)] w fun e w' => ∃ r, e = .returned r ∧ RatIs w' r (shareQ (sumF (d i) n) (d i j)) 4 ∧ Below w.heap.size w w' := by
  obtain ⟨c0, c1, c2, c3, hcash, ⟨da, db, d_o, dc, ra, rb, ro, rc, rfl, hdm⟩, ⟨ta, tb, t_o, tc, rfl, hts⟩, hlt⟩ := hm
  have ixt := fun W => ixI hts i tc hi W
  have ixd := fun W => ixM hdm.top i dc hi W
  have ixe := fun W => ixI (hdm.row i hi) j (rc i) hj W
  have hct := hts.cell i hi
  have hcd := hdm.top.cell i hi
  have hce := (hdm.row i hi).cell j hj
  have hlt1 := hts.lt (by omega)
  have hlt2 := hdm.top.lt (by omega)
  have hlt3 := (hdm.row i hi).lt (by omega)
  simp only [ic] at hct hce
  generalize hT : sumF (d i) n = T at *
  generalize hX : d i j = X at *
  clear hT hX hcash c0 c1
  have keepS : Hid (∀ w', Below w.heap.size w w' → w'.cell? ⟨b, 2, none⟩ = some (.slice da n dc) ∧ w'.cell? ⟨b, 3, none⟩ = some (.slice ta n tc) ∧ w'.cell? ⟨tb, t_o + i, none⟩ = some (.int .i64 T) ∧ w'.cell? ⟨db, d_o + i, none⟩ = some (.slice (ra i) n (rc i)) ∧ w'.cell? ⟨rb i, ro i + j, none⟩ = some (.int .i64 X)) :=
    Lib.hid (fun w' hb => ⟨bel1 hb c2 hlt, bel1 hb c3 hlt, bel1 hb hct hlt1, bel1 hb hcd hlt2, bel1 hb hce hlt3⟩)
  have KW : Hid (Below w.heap.size w (w.alloc (Obj.cells #[.bool false, .slice none 0 0, .bool false, .slice none 0 0] 88))) := boxes1 w _
  have PO : Hid (Own4 (w.alloc (Obj.cells #[.bool false, .slice none 0 0, .bool false, .slice none 0 0] 88)) w.heap.size (.bool false) (.slice none 0 0) (.bool false) (.slice none 0 0)) := own4_new _ _ rfl _ _ _ _ _
  clear hts hdm c2 c3 hct hcd hce
  obtain ⟨c2, c3, hct, hcd, hce⟩ := keepS.out _ KW.out
  by_cases h0 : T = 0
  · have d0 : (T == 0) = true := by simpa using h0
    have H0 := Lib.hid h0
    clear h0
    go_enter Try.func60, Try.ntmps60
    go_wp2_with (first
      | (go_at_call 53; (with_reducible refine (rat_whole 0 (by omega) (by omega) _).mono ?_); rintro e w1 ⟨r1, rfl, hr1, hb1⟩; obtain ⟨s1, a1, n1, c1, b1, m1, d1, rfl, KR⟩ := hr1.shape; clear hr1; have KW := Lib.hid (KW.out.trans (hb1.mono KW.out.size)); have PO := Lib.hid (PO.out.below hb1 PO.out.lt); obtain ⟨x0, x1, x2, x3, xf, xl⟩ := PO.out))
    refine bodyPost_ret (v := .agg #[.bool s1, .slice a1 n1 c1, .bool false, .slice b1 m1 d1]) (by simp [results, Try.results60, go_sem, x0, x1, x2, x3, xf]) rfl ?_
    refine ⟨_, rfl, RatIs.into (RatIs.le (m := 2) (by rw [shareQ, if_pos H0.out]; exact KR.out) (by omega)) _ _ _ _ PO.out, below_set4 KW.out (by omega) _ _ _ _⟩
  · have d0 : (T == 0) = false := by simpa using h0
    have HP : Hid (0 < ((T : Int) : Rat).num) := Lib.hid (by rw [Rat.num_intCast]; omega)
    have HQ : Hid ((X : Rat) / (T : Rat) = shareQ T X) := Lib.hid (by rw [shareQ, if_neg h0])
    clear h0
    go_enter Try.func60, Try.ntmps60
    go_wp2
    have KW0 := KW
    have KW := Lib.hid KW.out.drew
    have PO := Lib.hid PO.out.drew
    go_region_held3 (fun w' => w'.cell? ⟨b, 2, none⟩ = some (.slice da n dc) ∧ w'.cell? ⟨b, 3, none⟩ = some (.slice ta n tc) ∧ w'.cell? ⟨tb, t_o + i, none⟩ = some (.int .i64 T) ∧ w'.cell? ⟨db, d_o + i, none⟩ = some (.slice (ra i) n (rc i)) ∧ w'.cell? ⟨rb i, ro i + j, none⟩ = some (.int .i64 X))
      (first | (with_reducible exact keepS.out _ KW0.out) | (with_reducible exact keepS.out _ KW.out) | (with_reducible exact keepS.out _ (below_set4 KW.out (Nat.le_refl _) _ _ _ _)))
      (first
      | (go_at_call 53; (with_reducible refine (rat_whole X (by omega) (by omega) _).mono ?_); rintro e w1 ⟨r1, rfl, hr1, hb1⟩; (try have K2 := Lib.hid (K2.out.mono hb1 (Nat.le_refl _))); obtain ⟨s1, a1, n1, c1, b1, m1, d1, rfl, K1⟩ := hr1.shape; clear hr1; have KW := Lib.hid (KW.out.trans (hb1.mono KW.out.size)); have PO := Lib.hid (PO.out.below hb1 PO.out.lt))
      | (go_at_call 53; (with_reducible refine (rat_whole T (by omega) (by omega) _).mono ?_); rintro e w2 ⟨r2, rfl, hr2, hb2⟩; (try have K1 := Lib.hid (K1.out.mono hb2 (Nat.le_refl _))); obtain ⟨s2, a2, n2, e2, b2, m2, d2, rfl, K2⟩ := hr2.shape; clear hr2; have KW := Lib.hid (KW.out.trans (hb2.mono KW.out.size)); have PO := Lib.hid (PO.out.below hb2 PO.out.lt))
      | (go_at_call 74; (with_reducible refine (rat_div _ _ (X : Rat) (T : Rat) 2 _ K1.out K2.out HP.out (by omega) (by omega)).mono ?_); rintro e w3 ⟨r3, rfl, hr3, hb3⟩; rw [HQ.out] at hr3; obtain ⟨s3, a3, n3, c3', b3, m3, d3, rfl, KR⟩ := hr3.shape; clear hr3; have KW := Lib.hid (KW.out.trans (hb3.mono KW.out.size)); have PO := Lib.hid (PO.out.below hb3 PO.out.lt); obtain ⟨x0, x1, x2, x3, xf, xl⟩ := PO.out))
    all_goals (try go_wp2)
    all_goals
      refine bodyPost_ret (v := .agg #[.bool s3, .slice a3 n3 c3', .bool false, .slice b3 m3 d3]) (by simp [results, Try.results60, go_sem, x0, x1, x2, x3, xf]) rfl ?_
      exact ⟨_, rfl, RatIs.into KR.out _ _ _ _ PO.out, below_set4 KW.out (by omega) _ _ _ _⟩

end Go.Proofs.Ytgmopcncbpdniaa
