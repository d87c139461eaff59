/- has of package debt: what a firm has. -/
import Derived.Test.YtgmopcncbpdniaaQMkt1
import Derived.Deep.RegionLaw
set_option linter.unusedVariables false
set_option linter.unusedSimpArgs false
namespace Go.Proofs.Ytgmopcncbpdniaa
open Go.RowKit
attribute [local go_sem ↓] Go.wp_at_zero Go.wp_at_succ

theorem rats_s : Try.prog.underlying 72 = some (.slice (Try.prog.elem 72)) := by kernel_rfl
theorem rats_z (W : World) : (sizeOf (Try.prog.elem 72)).run Try.prog W = .ok 4 W := by kernel_rfl

theorem ixR (b o n c i : Nat) (hi : i < n) (W : World) :
    (Instr.indexAt 72 (.slice (some ⟨b, o, none⟩) n c) (.int .i64 (i : Int))).run Try.prog W = .ok (.pointer (some ⟨b, o + i * 4, none⟩)) W := by
  rw [run_indexAt_slice W _ _ _ _ _ _ rats_s, if_pos ⟨by omega, by omega⟩, rats_z]
  simp only [Result.andThen, Int.toNat_natCast]
  congr 3
  unfold Addr.add
  split
  · rename_i h; simp [show i = 0 by omega]
  · rfl

theorem Rd4.drew {w : World} {b o : Nat} {x y z u : Value} (h : Rd4 w b o x y z u) : Rd4 w.drew b o x y z u := ⟨h.c0, h.c1, h.c2, h.c3, h.lt⟩

/-- n Rats in a row -/
def IsRats (w : World) (pb po n : Nat) (q : Nat → Rat) (K : Nat) : Prop :=
  ∀ j, j < n → ∃ s a m c a2 m2 c2, Rd4 w pb (po + j * 4) (.bool s) (.slice a m c) (.bool false) (.slice a2 m2 c2) ∧ RatIs w (.agg #[.bool s, .slice a m c, .bool false, .slice a2 m2 c2]) (q j) K

theorem IsRats.mono {w w' : World} {pb po n K B : Nat} {q : Nat → Rat} (h : IsRats w pb po n q K) (hb : Below B w w') (hB : w.heap.size ≤ B) : IsRats w' pb po n q K := fun j hj => by
  obtain ⟨s, a, m, c, a2, m2, c2, h1, h2⟩ := h j hj
  exact ⟨s, a, m, c, a2, m2, c2, h1.below hb (Nat.lt_of_lt_of_le h1.lt hB), h2.mono hb hB⟩

/-- q 0 + .. + q (n - 1) -/
def sumQ (q : Nat → Rat) : Nat → Rat
  | 0 => 0
  | n + 1 => sumQ q n + q n

/-- what firm i has: its cash and what it receives -/
def hasQ (n : Nat) (cash : Nat → Int) (d : Nat → Nat → Int) (q : Nat → Rat) (i : Nat) : Rat :=
  (cash i : Rat) + sumQ (fun j => q j * shareQ (sumF (d j) n) (d j i)) n

/-- a Rat stored into a block of the call's own that holds another one -/
theorem RatIs.into' {w : World} {v : Value} {q : Rat} {m b : Nat} {s a c a2 c2 : _} {n n2 : Nat} (h : RatIs w v q m) (u0 u1 u2 u3 : Value) (ho : Own4 w b (.bool s) (.slice a n c) (.bool false) (.slice a2 n2 c2)) :
    RatIs ((((w.setCell ⟨b, 0, none⟩ u0).setCell ⟨b, 1, none⟩ u1).setCell ⟨b, 2, none⟩ u2).setCell ⟨b, 3, none⟩ u3) v q m :=
  h.store4 u0 u1 u2 u3 ho.c0 ho.c1 ho.c2 ho.c3 (noInt_bool _) (noInt_slice _ _ _) (noInt_bool _) (noInt_slice _ _ _)

set_option maxHeartbeats 4000000 in
theorem has_any (b n i : Nat) (cash : Nat → Int) (d : Nat → Nat → Int) (vc vd vt : Value) (w : World) (hm : IsMkt w b n cash d vc vd vt) (hi : i < n) (hn : n ≤ 8)
    (hD : ∀ j, j < n → 0 ≤ d j i ∧ d j i ≤ 1000 ∧ 0 ≤ sumF (d j) n ∧ sumF (d j) n ≤ 100000) (hC : 0 ≤ cash i ∧ cash i ≤ 100000)
    (pb po pc : Nat) (q : Nat → Rat) (K : Nat) (hp : IsRats w pb po n q K) (hK : 4 ≤ K) (hK2 : K ≤ 268435456) :
    Calls Try.prog 51 #[.pointer (some ⟨b, 0, none⟩), .int .i64 (i : Nat), .slice (some ⟨pb, po, none⟩) n pc] w fun e w' => ∃ r, e = .returned r ∧ RatIs w' r (hasQ n cash d q i) (512 * (K + 1)) ∧ Below w.heap.size w w' := by
  have HM := Lib.hid hm
  have HPR := Lib.hid hp
  have HD := Lib.hid hD
  obtain ⟨c0, c1, c2, c3, ⟨ca, cb, co, cc, rfl, hcs⟩, -, -, hlt⟩ := hm
  clear hp hD c2 c3
  have ixc := fun W => ixI hcs i cc hi W
  have hcc := hcs.cell i hi
  have hclt := hcs.lt (by omega)
  simp only [ic] at hcc
  obtain ⟨hC0, hC1⟩ := hC
  have hlen : 0 < n := by omega
  have KW : Hid (Below w.heap.size w (w.alloc (Obj.cells #[.bool false, .slice none 0 0, .bool false, .slice none 0 0] 88))) := boxes1 w _
  have PO : Hid (Own4 (w.alloc (Obj.cells #[.bool false, .slice none 0 0, .bool false, .slice none 0 0] 88)) w.heap.size (.bool false) (.slice none 0 0) (.bool false) (.slice none 0 0)) := own4_new _ _ rfl _ _ _ _ _
  have keepS : Hid (∀ w', Below w.heap.size w w' → w'.cell? ⟨b, 0, none⟩ = some (.int .i64 (n : Nat)) ∧ w'.cell? ⟨b, 1, none⟩ = some (.slice ca n cc) ∧ w'.cell? ⟨cb, co + i, none⟩ = some (.int .i64 (cash i))) :=
    Lib.hid (fun w' hb => ⟨bel1 hb c0 hlt, bel1 hb c1 hlt, bel1 hb hcc hclt⟩)
  clear hcs c0 c1 hcc
  obtain ⟨c0, c1, hcc⟩ := keepS.out _ KW.out
  go_enter Try.func51, Try.ntmps51
  go_wp2_with (first
      | (go_at_call 53; (with_reducible refine (rat_whole (cash i) (by omega) (by omega) _).mono ?_); rintro e w1 ⟨r1, rfl, hr1, hb1⟩; obtain ⟨s1, a1, n1, c1', b1, m1, d1, rfl, KR⟩ := hr1.shape; clear hr1; have KW := Lib.hid (KW.out.trans (hb1.mono KW.out.size)); have PO := Lib.hid (PO.out.below hb1 PO.out.lt); clear c0 c1 hcc; obtain ⟨c0, c1, hcc⟩ := keepS.out _ KW.out; have hz1 : w.heap.size < w1.heap.size := PO.out.lt; have hblt : b < w1.heap.size := (by omega)))
  have PS : Hid (Own4 (w1.alloc (Obj.cells #[.bool s1, .slice a1 n1 c1', .bool false, .slice b1 m1 d1] 88)) w1.heap.size (.bool s1) (.slice a1 n1 c1') (.bool false) (.slice b1 m1 d1)) := own4_new _ _ rfl _ _ _ _ _
  have KWA : Hid (Below w.heap.size w (w1.alloc (Obj.cells #[.bool s1, .slice a1 n1 c1', .bool false, .slice b1 m1 d1] 88))) := KW.out.alloc KW.out.size _
  have POA : Hid (Own4 (w1.alloc (Obj.cells #[.bool s1, .slice a1 n1 c1', .bool false, .slice b1 m1 d1] 88)) w.heap.size (.bool false) (.slice none 0 0) (.bool false) (.slice none 0 0)) := PO.out.alloc _
  have KRA := Lib.hid (KR.out.mono (boxes1 w1 (Obj.cells #[.bool s1, .slice a1 n1 c1', .bool false, .slice b1 m1 d1] 88)) (Nat.le_refl _))
  have HPW : ∀ k, k ≤ n → 2 ^ k * (2 * K + 2) ≤ 256 * (2 * K + 2) ∧ 2 * K + 2 ≤ 2 ^ k * (2 * K + 2) := fun k hk => by
    have h1 : 2 ^ k ≤ 2 ^ 8 := Nat.pow_le_pow_right (by omega) (by omega)
    have h2 : 1 ≤ 2 ^ k := Nat.one_le_two_pow
    exact ⟨Nat.mul_le_mul_right _ h1, by have := Nat.mul_le_mul_right (2 * K + 2) h2; omega⟩
  have HPW := Lib.hid HPW
  have hsb := hz1
  clear PS KW PO KR hb1 c0 c1 hcc ixc
  go_loopw [8, 21] (fun v8 v21 wr => ∃ k : Nat, k ≤ n ∧ v21 = .int .i64 (k : Nat) ∧ ∃ s a m c a2 m2 c2 B, Hid (Own4 wr w1.heap.size (.bool s) (.slice a m c) (.bool false) (.slice a2 m2 c2)) ∧
      Hid (RatIs wr (.agg #[.bool s, .slice a m c, .bool false, .slice a2 m2 c2]) ((cash i : Rat) + sumQ (fun j => q j * shareQ (sumF (d j) n) (d j i)) k) B) ∧ Hid (B + 1 = 2 ^ k * (2 * K + 2)) ∧
      Hid (Own4 wr w.heap.size (.bool false) (.slice none 0 0) (.bool false) (.slice none 0 0)) ∧ Hid (Below w.heap.size w wr)) (fun _ v21 _ => n - (intOf v21).toNat)
  case atStart =>
    refine ⟨0, by omega, rfl, s1, a1, n1, c1', b1, m1, d1, 2 * K + 1, own4_new _ _ rfl _ _ _ _ _, ?_, ?_, POA, KWA⟩
    · exact Lib.hid (by rw [sumQ, Rat.add_zero]; exact KRA.out.le (by omega))
    · exact Lib.hid (by rw [Nat.pow_zero, Nat.one_mul])
  case round =>
    obtain ⟨k, hk, rfl, s, a, m, c, a2, m2, c2, B, PS, KS, HB, PO, KW⟩ := hrel
    by_cases h : k < n
    · obtain ⟨s', a', m', c', a2', m2', c2', PP, KP⟩ := (HPR.out.mono KW.out (Nat.le_refl _)) k h
      have PP := Lib.hid PP
      have KP := Lib.hid KP
      have hb1 := HPW.out k hk
      have hb2 := HB.out
      have hBK : 2 * K + 1 ≤ B := by omega
      have hBb : 2 * B + 1 ≤ 549755813888 := by omega
      clear hb1 hb2
      obtain ⟨hd1, hd2, hd3, hd4⟩ := HD.out k h
      have HD4 := Lib.hid (show 0 ≤ d k i ∧ d k i ≤ 1000 ∧ 0 ≤ sumF (d k) n ∧ sumF (d k) n ≤ 100000 from ⟨hd1, hd2, hd3, hd4⟩)
      clear hd1 hd2 hd3 hd4
      have ixr := fun W => ixR pb po n pc k h W
      have PS0 := PS
      have PS := Lib.hid PS.out.drew
      have PO := Lib.hid PO.out.drew
      have KS := Lib.hid (KS.out.drew)
      have KP := Lib.hid (KP.out.drew)
      have PP0 := PP
      have PP := Lib.hid PP.out.drew
      have KW := Lib.hid KW.out.drew
      have HMk := Lib.hid (HM.out.mono KW.out (Nat.le_refl _))
      obtain ⟨x0, x1, x2, x3, xf, xl⟩ := PS0.out
      obtain ⟨y0, y1, y2, y3, yl⟩ := PP0.out
      go_wp2
      go_region_with (first
        | (go_at_call 60; go_loud ((with_reducible refine (share_any b n k i cash d _ _ _ _ HMk.out h hi HD4.out.1 HD4.out.2.1 HD4.out.2.2.1 HD4.out.2.2.2).mono ?_); rintro e w2 ⟨r2, rfl, hr2, hb2⟩; have KS := Lib.hid (KS.out.mono hb2 (Nat.le_refl _)); have KP := Lib.hid (KP.out.mono hb2 (Nat.le_refl _)); have PP := Lib.hid (PP.out.below hb2 PP.out.lt); obtain ⟨s2, e2, n2, f2, b2, m2x, d2, rfl, KH⟩ := hr2.shape; clear hr2; have KW := Lib.hid (KW.out.trans (hb2.mono KW.out.size)); have PO := Lib.hid (PO.out.below hb2 PO.out.lt); have PS := Lib.hid (PS.out.below hb2 PS.out.lt); obtain ⟨u0, u1, u2, u3, uf, ul⟩ := PS.out; obtain ⟨v0, v1, v2, v3, vl⟩ := PP.out))
        | (go_at_call 64; (with_reducible refine (rat_mul _ _ (q k) (shareQ (sumF (d k) n) (d k i)) K _ KP.out (KH.out.le hK) (by omega) (by omega)).mono ?_); rintro e w3 ⟨r3, rfl, hr3, hb3⟩; have KS := Lib.hid (KS.out.mono hb3 (Nat.le_refl _)); obtain ⟨s3, e3, n3, f3, b3, m3x, d3, rfl, KM⟩ := hr3.shape; clear hr3; have KW := Lib.hid (KW.out.trans (hb3.mono KW.out.size)); have PO := Lib.hid (PO.out.below hb3 PO.out.lt); have PS := Lib.hid (PS.out.below hb3 PS.out.lt); obtain ⟨g0, g1, g2, g3, gf, gl⟩ := PS.out)
        | (go_at_call 63; (with_reducible refine (rat_add _ _ _ (q k * shareQ (sumF (d k) n) (d k i)) B _ KS.out (KM.out.le (by omega)) (by omega) hBb).mono ?_); rintro e w4 ⟨r4, rfl, hr4, hb4⟩; obtain ⟨s4, e4, n4, f4, b4, m4x, d4, rfl, KA⟩ := hr4.shape; clear hr4; have KW := Lib.hid (KW.out.trans (hb4.mono KW.out.size)); have PO := Lib.hid (PO.out.below hb4 PO.out.lt); have PS := Lib.hid (PS.out.below hb4 PS.out.lt); obtain ⟨t0, t1, t2, t3, tf, tl⟩ := PS.out))
      all_goals go_wp2
      all_goals
        go_roundw
        case rel =>
          refine ⟨k + 1, by omega, by go_num, s4, e4, n4, f4, b4, m4x, d4, 2 * B + 1, PS.out.anew _ _ _ _, Lib.hid ?_, Lib.hid ?_, PO.out.set4 _ _ _ _ _ (by omega), below_set4 KW.out (by omega) _ _ _ _⟩
          · rw [sumQ, ← Rat.add_assoc]
            exact RatIs.into' KA.out _ _ _ _ PS.out
          · have := HB.out
            rw [Nat.pow_succ, Nat.mul_comm (2 ^ k) 2, Nat.mul_assoc]; omega
        case measure => simp [intOf]; omega
    · obtain rfl : k = n := by omega
      obtain ⟨x0, x1, x2, x3, xf, xl⟩ := PS.out
      obtain ⟨y0, y1, y2, y3, yf, yl⟩ := PO.out
      have hb1 := (HPW.out k hk).1
      have hb2 := HB.out
      have hB : B ≤ 512 * (K + 1) := by omega
      clear hb1 hb2
      go_wp2
      refine bodyPost_ret (v := .agg #[.bool s, .slice a m c, .bool false, .slice a2 m2 c2]) (by simp [results, Try.results51, go_sem, y0, y1, y2, y3, yf]) rfl ?_
      exact ⟨_, rfl, RatIs.into (KS.out.le hB) _ _ _ _ PO.out, below_set4 KW.out (by omega) _ _ _ _⟩

end Go.Proofs.Ytgmopcncbpdniaa
