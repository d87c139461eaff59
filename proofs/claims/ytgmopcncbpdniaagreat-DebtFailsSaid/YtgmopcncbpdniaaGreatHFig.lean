/- Markets that are none: Market of the reference; read, Clear, Fails and Keeps there. -/
import Derived.Test.YtgmopcncbpdniaaGreatHPlainL
import Derived.Test.YtgmopcncbpdniaaGreatHKeep
import Derived.Test.YtgmopcncbpdniaaGreatHRnd
import Derived.Test.YtgmopcncbpdniaaGreatHBig16
import Derived.Test.YtgmopcncbpdniaaGreatHPlainU
import Derived.Test.YtgmopcncbpdniaaGreatHBig18
import Derived.Test.YtgmopcncbpdniaaGreatHNumR
set_option linter.unusedVariables false
set_option linter.unusedSimpArgs false
namespace Go.Proofs.YtgmopcncbpdniaaGreat
open Go.RowKit
attribute [local go_sem ↓] Go.wp_at_zero Go.wp_at_succ
/-- a market -/
def Mkt (nc n : Nat) (cash : Nat → Int) (m : Nat → Nat) (d : Nat → Nat → Int) : Prop := (∀ i, i < nc → 0 ≤ cash i ∧ cash i ≤ 1000) ∧ Debts n m d ∧ nc = n
set_option maxHeartbeats 2000000 in
set_option maxRecDepth 100000 in
theorem market_any (vc vd : Value) (nc n : Nat) (cash : Nat → Int) (m : Nat → Nat) (d : Nat → Nat → Int) (r : Bool) (hr : r = true ↔ Mkt nc n cash m d) (w : World) (hc : Ints w vc nc cash) (hd : Mat w vd n m d) (b1 : nc ≤ 1048576) (b2 : n ≤ 1048576) :
    Calls Tryz.prog 23 #[vc, vd] w fun e w' => e = .returned (.bool r) ∧ Drawn w w' := by
  have HD := Lib.hid hd
  obtain ⟨da, db, d_o, dc, ra, rb, ro, rc, rfl, -⟩ := hd
  obtain ⟨a, b, o, c, rfl, hs⟩ := hc
  have HR := Lib.hid hr
  have HS := Lib.hid hs
  clear hr hs
  go_enter Tryz.func23, Tryz.ntmps23
  go_wp2
  go_loopw [5] (fun v4 wr => ∃ k : Nat, k ≤ nc ∧ v4 = .int .i64 (k : Nat) ∧ Hid (∀ i, i < k → 0 ≤ cash i ∧ cash i ≤ 1000) ∧ Hid (Drawn w wr)) (fun v4 _ => nc - (intOf v4).toNat)
  case atStart => exact ⟨0, by omega, rfl, Lib.hid (fun i hi => by omega), Lib.hid (Drawn.refl _)⟩
  case round =>
    obtain ⟨k, hk, rfl, HG, hd⟩ := hrel
    by_cases h : k < nc
    · have hix := fun W => ixI HS.out k c h W
      have hjc := (HS.out.drawn hd.out).cell k h
      simp only [ic] at hjc
      by_cases h4 : 0 ≤ cash k ∧ cash k ≤ 1000
      · have H4 := Lib.hid h4
        clear h4
        go_wp2_with (go_at_call 53; (with_reducible refine (in_any _ _ _ true (by simpa using H4.out) _).mono ?_); rintro e w1 ⟨rfl, rfl⟩)
        go_roundw
        case rel => exact ⟨k + 1, by omega, by go_num, Lib.hid (ext_lt HG.out H4.out), hd⟩
        case measure => simp [intOf]; omega
      · have H4 := Lib.hid h4
        clear h4
        obtain rfl : r = false := bool_false HR.out (fun q => H4.out (q.1 k h))
        go_wp2_with (go_at_call 53; (with_reducible refine (in_any _ _ _ false (by simpa using H4.out) _).mono ?_); rintro e w1 ⟨rfl, rfl⟩)
        go_ret
        exact ⟨rfl, hd.out⟩
    · obtain rfl : k = nc := by omega
      by_cases hD : Debts n m d
      · have HDB := Lib.hid hD
        clear hD
        by_cases hn : k = n
        · have HN := Lib.hid hn
          obtain rfl : r = true := HR.out.2 ⟨HG.out, HDB.out, hn⟩
          have e1 : (((k : Nat) : Int) == ((n : Nat) : Int)) = true := by simp; omega
          clear hn
          go_wp2_with (go_at_call 54; (with_reducible refine (debts_any _ n m d true ⟨fun _ => HDB.out, fun _ => rfl⟩ _ (HD.out.drawn hd.out) b2).mono ?_); rintro e w1 ⟨rfl, hd1⟩)
          go_ret
          exact ⟨rfl, hd.out.trans hd1⟩
        · obtain rfl : r = false := bool_false HR.out (fun q => hn q.2.2)
          have e1 : (((k : Nat) : Int) == ((n : Nat) : Int)) = false := by simp; omega
          clear hn
          go_wp2_with (go_at_call 54; (with_reducible refine (debts_any _ n m d true ⟨fun _ => HDB.out, fun _ => rfl⟩ _ (HD.out.drawn hd.out) b2).mono ?_); rintro e w1 ⟨rfl, hd1⟩)
          go_ret
          exact ⟨rfl, hd.out.trans hd1⟩
      · obtain rfl : r = false := bool_false HR.out (fun q => hD q.2.1)
        have HDB := Lib.hid hD
        clear hD
        go_wp2_with (go_at_call 54; (with_reducible refine (debts_any _ n m d false ⟨fun e => Bool.noConfusion e, fun h => absurd h HDB.out⟩ _ (HD.out.drawn hd.out) b2).mono ?_); rintro e w1 ⟨rfl, hd1⟩)
        go_ret
        exact ⟨rfl, hd.out.trans hd1⟩
set_option maxHeartbeats 2000000 in
set_option maxRecDepth 100000 in
theorem read_no (vc vd : Value) (nc n : Nat) (cash : Nat → Int) (m : Nat → Nat) (d : Nat → Nat → Int) (w : World) (hc : Ints w vc nc cash) (hd : Mat w vd n m d) (b1 : nc ≤ 1048576) (b2 : n ≤ 1048576) (b3 : ∀ i, i < n → m i ≤ 1048576) (hno : ¬ Mkt nc n cash m d) :
    Calls Tryz.prog 38 #[vc, vd] w fun e w' => e = .returned (.tuple #[.pointer none, .bool false]) ∧ Below w.heap.size w w' := by
  have HC := Lib.hid hc
  have HD := Lib.hid hd
  have HN := Lib.hid hno
  have B3 := Lib.hid b3
  have KW := Lib.hid (Below.refl w.heap.size w)
  obtain ⟨da, db, d_o, dc, ra, rb, ro, rc, rfl, -⟩ := hd
  obtain ⟨a, b, o, c, rfl, -⟩ := hc
  clear hno b3
  go_enter Tryz.func38, Tryz.ntmps38
  by_cases hD : Debts n m d
  · have HDB := Lib.hid hD
    clear hD
    by_cases hn : nc = n
    · subst hn
      have hneq : (((nc : Nat) : Int) != ((nc : Nat) : Int)) = false := by simp
      have HW : Hid (¬ ∀ i, i < nc → 0 ≤ cash i ∧ cash i ≤ 1000) := Lib.hid (fun q => HN.out ⟨q, HDB.out, rfl⟩)
      go_wp2_with (first
        | (go_at_call 69; (with_reducible refine (square_any _ nc m d true ⟨fun _ => HDB.out, fun _ => rfl⟩ _ HD.out (by omega) B3.out).mono ?_); rintro e w1 ⟨rfl, hd1⟩; have KW := Lib.hid (KW.out.trans (hd1.below _)); have HC := Lib.hid (HC.out.drawn hd1))
        | (go_at_call 70; (with_reducible refine (within_any _ nc cash false ⟨fun e => Bool.noConfusion e, fun h => absurd h HW.out⟩ _ HC.out b1).mono ?_); rintro e w2 ⟨rfl, hd2⟩; have KW := Lib.hid (KW.out.trans (hd2.below _))))
      go_ret2
      exact ⟨rfl, KW.out⟩
    · have hneq : (((nc : Nat) : Int) != ((n : Nat) : Int)) = true := by simp; omega
      clear hn
      go_wp2_with (first
        | (go_at_call 69; (with_reducible refine (square_any _ n m d true ⟨fun _ => HDB.out, fun _ => rfl⟩ _ HD.out b2 B3.out).mono ?_); rintro e w1 ⟨rfl, hd1⟩; have KW := Lib.hid (KW.out.trans (hd1.below _))))
      go_ret2
      exact ⟨rfl, KW.out⟩
  · have HDB := Lib.hid hD
    clear hD
    go_wp2_with (first
      | (go_at_call 69; (with_reducible refine (square_any _ n m d false ⟨fun e => Bool.noConfusion e, fun h => absurd h HDB.out⟩ _ HD.out b2 B3.out).mono ?_); rintro e w1 ⟨rfl, hd1⟩; have KW := Lib.hid (KW.out.trans (hd1.below _))))
    go_ret2
    exact ⟨rfl, KW.out⟩
theorem fails_no (vc vd : Value) (nc n : Nat) (cash : Nat → Int) (m : Nat → Nat) (d : Nat → Nat → Int) (w : World) (hc : Ints w vc nc cash) (hd : Mat w vd n m d) (b1 : nc ≤ 1048576) (b2 : n ≤ 1048576) (b3 : ∀ i, i < n → m i ≤ 1048576) (hno : ¬ Mkt nc n cash m d) :
    Calls Tryz.prog 15 #[vc, vd] w fun e w' => e = .returned (.tuple #[.slice none 0 0, .int .i64 1]) ∧ Below w.heap.size w w' := by
  have HC := Lib.hid hc
  have HD := Lib.hid hd
  have HN := Lib.hid hno
  have B3 := Lib.hid b3
  clear hc hd hno b3
  go_enter Tryz.func15, Tryz.ntmps15
  go_wp2_with (go_at_call 38; (with_reducible refine (read_no _ _ nc n cash m d _ HC.out HD.out b1 b2 B3.out HN.out).mono ?_); rintro e w1 ⟨rfl, hb1⟩)
  go_ret2
  exact ⟨rfl, hb1⟩
theorem keeps_no (vc vd : Value) (nc n : Nat) (cash : Nat → Int) (m : Nat → Nat) (d : Nat → Nat → Int) (w : World) (hc : Ints w vc nc cash) (hd : Mat w vd n m d) (b1 : nc ≤ 1048576) (b2 : n ≤ 1048576) (b3 : ∀ i, i < n → m i ≤ 1048576) (hno : ¬ Mkt nc n cash m d) :
    Calls Tryz.prog 22 #[vc, vd] w fun e w' => e = .returned (.tuple #[.slice none 0 0, .int .i64 1]) ∧ Below w.heap.size w w' := by
  have HC := Lib.hid hc
  have HD := Lib.hid hd
  have HN := Lib.hid hno
  have B3 := Lib.hid b3
  clear hc hd hno b3
  go_enter Tryz.func22, Tryz.ntmps22
  go_wp2_with (go_at_call 38; (with_reducible refine (read_no _ _ nc n cash m d _ HC.out HD.out b1 b2 B3.out HN.out).mono ?_); rintro e w1 ⟨rfl, hb1⟩)
  go_ret2
  exact ⟨rfl, hb1⟩
end Go.Proofs.YtgmopcncbpdniaaGreat

/- A market as a law gets it: the debts of the firms alone. -/
namespace Go.Proofs.YtgmopcncbpdniaaGreat
open Go.RowKit
theorem Mat.cong {w : World} {v : Value} {n : Nat} {m m' : Nat → Nat} {f g : Nat → Nat → Int} (h : Mat w v n m f) (hm : ∀ i, i < n → m i = m' i) (e : ∀ i j, i < n → j < m' i → f i j = g i j) : Mat w v n m' g := by
  obtain ⟨a, b, o, c, ra, rb, ro, rc, rfl, h2⟩ := h.row_len hm
  exact ⟨a, b, o, c, ra, rb, ro, rc, rfl, ⟨h2.top, fun i hi => (h2.row i hi).congr (fun j hj => by unfold ic; rw [e i j hi hj])⟩⟩
/-- debts, 0 outside the range of the firms -/
def inD (n : Nat) (d : Nat → Nat → Int) (i j : Nat) : Int := if i < n ∧ j < n then d i j else 0
theorem inD_debts {n : Nat} {m : Nat → Nat} {d : Nat → Nat → Int} (h : Debts n m d) : Debts n (fun _ => n) (inD n d) := by
  refine ⟨h.1, h.2.1, fun i hi => ⟨rfl, ?_, fun j hj => ?_⟩⟩
  · unfold inD; rw [if_pos ⟨hi, hi⟩]; exact (h.2.2 i hi).2.1
  · unfold inD; rw [if_pos ⟨hi, hj⟩]; exact (h.2.2 i hi).2.2 j hj
theorem inD_pos {n : Nat} {m : Nat → Nat} {d : Nat → Nat → Int} (h : Debts n m d) : ∀ i j, 0 ≤ inD n d i j := fun i j => by
  unfold inD; split
  · rename_i e; exact ((h.2.2 i e.1).2.2 j e.2).1
  · omega
theorem inD_mat {w : World} {v : Value} {n : Nat} {m : Nat → Nat} {d : Nat → Nat → Int} (hm : Mat w v n m d) (h : Debts n m d) : Mat w v n (fun _ => n) (inD n d) :=
  hm.cong (fun i hi => (h.2.2 i hi).1) (fun i j hi hj => by unfold inD; rw [if_pos ⟨hi, hj⟩])
theorem cutM_small (m : Nat → Nat) (i : Nat) : cutM m i ≤ 1048576 := by unfold cutM; omega
end Go.Proofs.YtgmopcncbpdniaaGreat

/- The reference's numbers: Gcd. -/
namespace Go.Proofs.YtgmopcncbpdniaaGreat
open Go.RowKit
attribute [local go_sem ↓] Go.wp_at_zero Go.wp_at_succ
/-- the value of a number at or above 0 -/
theorem ZIs.shapeN {w : World} {v : Value} {z : Nat} {m : Nat} (h : ZIs w v ((z : Nat) : Int) m) : ∃ a c, v = .agg #[.bool false, .slice a (nd z) c] ∧ Hid (ZIs w (.agg #[.bool false, .slice a (nd z) c]) ((z : Nat) : Int) m) := by
  have h0 := h
  obtain ⟨u, rfl, ⟨a, b, o, c, rfl, hs⟩, h2⟩ := h
  have e : decide (((z : Nat) : Int) < 0) = false := by simp
  rw [e] at h0 ⊢
  exact ⟨a, c, rfl, h0⟩
theorem ZIs.tight {w : World} {v : Value} {z : Int} {m n : Nat} (h : ZIs w v z m) (hn : nd z.natAbs ≤ n) : ZIs w v z n := by
  obtain ⟨u, rfl, h1, _⟩ := h
  exact ⟨u, rfl, h1, hn⟩
theorem ZIs.digits {w : World} {v : Value} {z : Int} {m : Nat} (h : ZIs w v z m) : nd z.natAbs ≤ m := by
  obtain ⟨u, rfl, h1, h2⟩ := h
  exact h2
theorem zdivmod_nat (a b : Value) (x y : Nat) (k l : Nat) (w : World) (ha : ZIs w a ((x : Nat) : Int) k) (hb : ZIs w b ((y : Nat) : Int) l) (hq : 0 < y) (hk : k ≤ 274877906944) (hl : l ≤ 274877906944) :
    Calls Tryz.prog 84 #[a, b] w fun e w' => ∃ u v, e = .returned (.tuple #[u, v]) ∧ ZIs w' u ((x / y : Nat) : Int) k ∧ ZIs w' v ((x % y : Nat) : Int) l ∧ Below w.heap.size w w' := by
  have b1 := ha.digits
  have b2 := hb.digits
  refine (zdivmod_any a b x y k l w ha hb (by omega) (.inl (by omega)) hk hl).mono ?_
  rintro e w' ⟨u, v, rfl, h1, h2, h3⟩
  refine ⟨u, v, rfl, ?_, ?_, h3⟩
  · exact ZIs.tight (z := ((x / y : Nat) : Int)) h1 (Nat.le_trans (nd_mono (by rw [Int.natAbs_natCast]; exact Nat.div_le_self _ _)) (by simpa using b1))
  · exact ZIs.tight (z := ((x % y : Nat) : Int)) h2 (Nat.le_trans (nd_mono (by rw [Int.natAbs_natCast]; exact Nat.le_of_lt (Nat.mod_lt _ hq))) (by simpa using b2))
theorem zabs_nat (a : Value) (p : Int) (k : Nat) (w : World) (ha : ZIs w a p k) :
    Calls Tryz.prog 120 #[a] w fun e w' => ∃ u c, e = .returned (.agg #[.bool false, .slice u (nd p.natAbs) c]) ∧ Hid (ZIs w' (.agg #[.bool false, .slice u (nd p.natAbs) c]) (p.natAbs : Int) k) ∧ Below w.heap.size w w' := by
  refine (zabs_any a p k w ha).mono ?_
  rintro e w' ⟨r, rfl, hr, hb⟩
  obtain ⟨u, c, rfl, h⟩ := hr.shapeN
  exact ⟨u, c, rfl, h, hb⟩
/-- what a round of Gcd holds -/
structure GcdS (w0 w : World) (a : Option Addr) (c : Nat) (b : Option Addr) (d : Nat) (x y k : Nat) : Prop where
  oa : Own2 w w0.heap.size (.bool false) (.slice a (nd x) c)
  ob : Own2 w (w0.heap.size + 1) (.bool false) (.slice b (nd y) d)
  o0 : Own2 w (w0.heap.size + 1 + 1) (.bool false) (.slice none 0 0)
  zx : ZIs w (.agg #[.bool false, .slice a (nd x) c]) ((x : Nat) : Int) k
  zy : ZIs w (.agg #[.bool false, .slice b (nd y) d]) ((y : Nat) : Int) k
  kw : Below w0.heap.size w0 w
theorem GcdS.below {w0 w w' : World} {a : Option Addr} {c : Nat} {b : Option Addr} {d x y k : Nat} (h : GcdS w0 w a c b d x y k) (hb : Below w.heap.size w w') : GcdS w0 w' a c b d x y k :=
  ⟨h.oa.below hb h.oa.lt, h.ob.below hb h.ob.lt, h.o0.below hb h.o0.lt, h.zx.mono hb (Nat.le_refl _), h.zy.mono hb (Nat.le_refl _), h.kw.trans (hb.mono h.kw.size)⟩
theorem GcdS.alloc {w0 w : World} {a : Option Addr} {c : Nat} {b : Option Addr} {d x y k : Nat} (h : GcdS w0 w a c b d x y k) (o : Obj) : GcdS w0 (w.alloc o) a c b d x y k := h.below ((Below.refl w.heap.size w).alloc (Nat.le_refl _) o)
theorem GcdS.drew {w0 w : World} {a : Option Addr} {c : Nat} {b : Option Addr} {d x y k : Nat} (h : GcdS w0 w a c b d x y k) : GcdS w0 w.drew a c b d x y k := h.below (Below.refl w.heap.size w).drew
theorem ZIs.off2 {w : World} {v : Value} {z : Int} {m b : Nat} {x y : Value} (h : ZIs w v z m) (O : Own2 w b x y) (nx : NoInt x) (ny : NoInt y) (u0 u1 : Value) : ZIs ((w.setCell ⟨b, 0, none⟩ u0).setCell ⟨b, 1, none⟩ u1) v z m :=
  h.store2 u0 u1 O.c0 O.c1 nx ny
theorem Own2.anew2 {w : World} {b : Nat} {x y : Value} (h : Own2 w b x y) (u0 u1 : Value) : Own2 ((w.setCell ⟨b, 0, none⟩ u0).setCell ⟨b, 1, none⟩ u1) b u0 u1 :=
  ⟨off_set (by decide) (self_set h.c0), self_set (off_set (by decide) h.c1), fun o => by rw [World.frozen?_setCell, World.frozen?_setCell]; exact h.f o, by simp only [World.setCell, Array.size_modify]; exact h.lt⟩
theorem Own2.off2 {w : World} {b b' : Nat} {x y : Value} (h : Own2 w b x y) (hne : b' ≠ b) (u0 u1 : Value) : Own2 ((w.setCell ⟨b', 0, none⟩ u0).setCell ⟨b', 1, none⟩ u1) b x y :=
  (h.setCell b' 0 u0 hne).setCell b' 1 u1 hne
/-- both boxes of Gcd stored anew -/
theorem gcd_stored {w0 w : World} {x1 y1 x2 y2 : Value} {a : Option Addr} {c : Nat} {b : Option Addr} {d x y k : Nat} (oa : Own2 w w0.heap.size x1 y1) (ob : Own2 w (w0.heap.size + 1) x2 y2) (o0 : Own2 w (w0.heap.size + 1 + 1) (.bool false) (.slice none 0 0))
    (n1 : NoInt x1) (m1 : NoInt y1) (n2 : NoInt x2) (m2 : NoInt y2)
    (zx : ZIs w (.agg #[.bool false, .slice a (nd x) c]) ((x : Nat) : Int) k) (zy : ZIs w (.agg #[.bool false, .slice b (nd y) d]) ((y : Nat) : Int) k) (kw : Below w0.heap.size w0 w) :
    GcdS w0 ((((w.setCell ⟨w0.heap.size, 0, none⟩ (.bool false)).setCell ⟨w0.heap.size, 1, none⟩ (.slice a (nd x) c)).setCell ⟨w0.heap.size + 1, 0, none⟩ (.bool false)).setCell ⟨w0.heap.size + 1, 1, none⟩ (.slice b (nd y) d)) a c b d x y k :=
  have ob1 := ob.off2 (b' := w0.heap.size) (by omega) (.bool false) (.slice a (nd x) c)
  ⟨(oa.anew2 _ _).off2 (by omega) _ _, ob1.anew2 _ _, (o0.off2 (by omega) _ _).off2 (by omega) _ _,
   (zx.off2 oa n1 m1 _ _).off2 ob1 n2 m2 _ _, (zy.off2 oa n1 m1 _ _).off2 ob1 n2 m2 _ _,
   (((kw.setCell (Nat.le_refl _) _).setCell (Nat.le_refl _) _).setCell (Nat.le_succ _) _).setCell (Nat.le_succ _) _⟩
set_option maxHeartbeats 2000000 in
theorem zgcd_any (x y : Value) (p q : Int) (k : Nat) (w : World) (ha : ZIs w x p k) (hb : ZIs w y q k) (hk : k ≤ 274877906944) :
    Calls Tryz.prog 83 #[x, y] w fun e w' => ∃ r, e = .returned r ∧ ZIs w' r (Int.gcd p q : Nat) k ∧ Below w.heap.size w w' := by
  obtain ⟨s1, a1, n1, c1, rfl, HA⟩ := ha.shape
  obtain ⟨s2, a2, n2, c2, rfl, HQ⟩ := hb.shape
  have bp := Lib.hid ha.digits
  have bq := Lib.hid hb.digits
  clear ha hb
  have KW : Hid (Below w.heap.size w (((w.alloc (Obj.cells #[Value.bool s1, Value.slice a1 n1 c1] 38)).alloc (Obj.cells #[Value.bool s2, Value.slice a2 n2 c2] 38)).alloc (Obj.cells #[.bool false, .slice none 0 0] 38))) := boxes3 w _ _ _
  have KA := Lib.hid (HA.out.mono KW.out (Nat.le_refl _))
  have KB := Lib.hid (HQ.out.mono KW.out (Nat.le_refl _))
  have O1 : Hid (Own2 (((w.alloc (Obj.cells #[Value.bool s1, Value.slice a1 n1 c1] 38)).alloc (Obj.cells #[Value.bool s2, Value.slice a2 n2 c2] 38)).alloc (Obj.cells #[.bool false, .slice none 0 0] 38)) w.heap.size (.bool s1) (.slice a1 n1 c1)) := ((own2_new _ _ rfl _ _ _).alloc _).alloc _
  have O2 : Hid (Own2 (((w.alloc (Obj.cells #[Value.bool s1, Value.slice a1 n1 c1] 38)).alloc (Obj.cells #[Value.bool s2, Value.slice a2 n2 c2] 38)).alloc (Obj.cells #[.bool false, .slice none 0 0] 38)) (w.heap.size + 1) (.bool s2) (.slice a2 n2 c2)) := (own2_new _ _ (by simp) _ _ _).alloc _
  have O3 : Hid (Own2 (((w.alloc (Obj.cells #[Value.bool s1, Value.slice a1 n1 c1] 38)).alloc (Obj.cells #[Value.bool s2, Value.slice a2 n2 c2] 38)).alloc (Obj.cells #[.bool false, .slice none 0 0] 38)) (w.heap.size + 1 + 1) (.bool false) (.slice none 0 0)) := own2_new _ _ (by simp) _ _ _
  clear HA HQ
  go_enter Tryz.func83, Tryz.ntmps83
  go_wp2
  have KW := Lib.hid KW.out.drew
  have KA := Lib.hid KA.out.drew
  have KB := Lib.hid KB.out.drew
  have O1 := Lib.hid O1.out.drew
  have O2 := Lib.hid O2.out.drew
  have O3 := Lib.hid O3.out.drew
  have x10 := O1.out.c0; have x11 := O1.out.c1; have xl1 := O1.out.lt; have xf1 := O1.out.f
  have x20 := O2.out.c0; have x21 := O2.out.c1; have xl2 := O2.out.lt; have xf2 := O2.out.f
  go_region_with (first
    | (go_at_call 120; have X1 := KA.out; clear KA; (with_reducible refine (zabs_nat _ p k _ X1).mono ?_); clear X1; rintro e w1 ⟨a3, c3, rfl, KA2, hb1⟩; have KB := Lib.hid (KB.out.mono hb1 (Nat.le_refl _)); have O1 := Lib.hid (O1.out.below hb1 O1.out.lt); have O2 := Lib.hid (O2.out.below hb1 O2.out.lt); have O3 := Lib.hid (O3.out.below hb1 O3.out.lt); have KW := Lib.hid (KW.out.trans (hb1.mono KW.out.size)); clear x10 x11 xl1 xf1 x20 x21 xl2 xf2; have x10 := O1.out.c0; have x11 := O1.out.c1; have xl1 := O1.out.lt; have xf1 := O1.out.f; have x20 := O2.out.c0; have x21 := O2.out.c1; have xl2 := O2.out.lt; have xf2 := O2.out.f)
    | (go_at_call 120; have X1 := KB.out; clear KB; (with_reducible refine (zabs_nat _ q k _ X1).mono ?_); clear X1; rintro e w2 ⟨a4, c4, rfl, KB2, hb2⟩; have KA2 := Lib.hid (KA2.out.mono hb2 (Nat.le_refl _)); have O1 := Lib.hid (O1.out.below hb2 O1.out.lt); have O2 := Lib.hid (O2.out.below hb2 O2.out.lt); have O3 := Lib.hid (O3.out.below hb2 O3.out.lt); have KW := Lib.hid (KW.out.trans (hb2.mono KW.out.size)); clear x10 x11 xl1 xf1 x20 x21 xl2 xf2; have x10 := O1.out.c0; have x11 := O1.out.c1; have xl1 := O1.out.lt; have xf1 := O1.out.f; have x20 := O2.out.c0; have x21 := O2.out.c1; have xl2 := O2.out.lt; have xf2 := O2.out.f))
  all_goals
    have G0 := Lib.hid (gcd_stored O1.out O2.out O3.out (noInt_bool _) (noInt_slice _ _ _) (noInt_bool _) (noInt_slice _ _ _) KA2.out KB2.out KW.out)
    clear KA2 KB2 KW O1 O2 O3 x10 x11 xl1 xf1 x20 x21 xl2 xf2 hb1 hb2
    generalize ((((w2.setCell ⟨w.heap.size, 0, none⟩ (.bool false)).setCell ⟨w.heap.size, 1, none⟩ (.slice a3 (nd p.natAbs) c3)).setCell ⟨w.heap.size + 1, 0, none⟩ (.bool false)).setCell ⟨w.heap.size + 1, 1, none⟩ (.slice a4 (nd q.natAbs) c4)) = w3 at G0 ⊢
    go_wp2
    go_loopg [] q.natAbs (fun g wr => ∃ (X : Nat) (a : Option Addr) (c : Nat) (b : Option Addr) (d : Nat), Hid (GcdS w wr a c b d X g k) ∧ Hid (Nat.gcd X g = Nat.gcd p.natAbs q.natAbs))
    case atStart => exact ⟨p.natAbs, _, _, _, _, G0, Lib.hid rfl⟩
    case round =>
      obtain ⟨X, a, c, b, d, G, HG⟩ := hrel
      clear G0
      have hpos := nd_pos gk
      have x10 := G.out.oa.c0
      have x11 := G.out.oa.c1
      have xl1 := G.out.oa.lt
      have xf1 := G.out.oa.f
      have x20 := G.out.ob.c0
      have x21 := G.out.ob.c1
      have xl2 := G.out.ob.lt
      have xf2 := G.out.ob.f
      have x30 := G.out.o0.c0
      have x31 := G.out.o0.c1
      have xl3 := G.out.o0.lt
      have xf3 := G.out.o0.f
      by_cases h0 : 0 < gk
      · have h2 : 0 < nd gk := hpos.2 h0
        have d2 : decide ((0 : Int) < ((nd gk : Nat) : Int)) = true := by simp; omega
        have HH := Lib.hid h0
        clear hpos h0
        go_wp2_with (go_at_call 84; (with_reducible refine (zdivmod_nat _ _ X gk k k _ G.out.zx G.out.zy HH.out hk hk).mono ?_); rintro e w1 ⟨u, v, rfl, hu, hv, hb⟩; obtain ⟨a5, c5, rfl, HU⟩ := hu.shapeN; obtain ⟨a6, c6, rfl, HV⟩ := hv.shapeN; clear hu hv; have G := Lib.hid (G.out.below hb); clear x10 x11 xl1 xf1 x20 x21 xl2 xf2 x30 x31 xl3 xf3; have x10 := G.out.oa.c0; have x11 := G.out.oa.c1; have xl1 := G.out.oa.lt; have xf1 := G.out.oa.f; have x20 := G.out.ob.c0; have x21 := G.out.ob.c1; have xl2 := G.out.ob.lt; have xf2 := G.out.ob.f; have x30 := G.out.o0.c0; have x31 := G.out.o0.c1; have xl3 := G.out.o0.lt; have xf3 := G.out.o0.f)
        go_region
        all_goals
          go_wp2
          go_roundg (X % gk)
          case measure => exact Nat.mod_lt _ HH.out
          case rel =>
            refine ⟨gk, b, d, a6, c6, Lib.hid (((gcd_stored G.out.oa G.out.ob G.out.o0 (noInt_bool _) (noInt_slice _ _ _) (noInt_bool _) (noInt_slice _ _ _) G.out.zy HV.out G.out.kw).alloc _).alloc _).drew, Lib.hid ?_⟩
            rw [← HG.out, Nat.gcd_comm gk, ← Nat.gcd_rec, Nat.gcd_comm]
      · have h2 : ¬ 0 < nd gk := fun q => h0 (hpos.1 q)
        have d2 : decide ((0 : Int) < ((nd gk : Nat) : Int)) = false := by simp; omega
        have HH := Lib.hid h0
        clear hpos h0
        go_wp2
        refine bodyPost_ret (v := .agg #[.bool false, .slice a (nd X) c]) (by simp [results, Tryz.results83, go_sem, x30, x31, xf3]) rfl ?_
        have e0 : gk = 0 := by have := HH.out; omega
        have e1 : X = Nat.gcd p.natAbs q.natAbs := by have := HG.out; rw [e0, Nat.gcd_zero_right] at this; exact this
        refine ⟨_, rfl, ?_, (G.out.kw.setCell (by dsimp only; omega) _).setCell (by dsimp only; omega) _⟩
        have := G.out.zx.off2 G.out.o0 (noInt_bool _) (noInt_slice _ _ _) (.bool false) (.slice a (nd X) c)
        rw [e1] at this ⊢
        exact this
end Go.Proofs.YtgmopcncbpdniaaGreat

/- The reference's reading of decimal digits. (Printed by gen_pars1.py.) -/
namespace Go.Proofs.YtgmopcncbpdniaaGreat
open Go.RowKit
attribute [local go_sem ↓] Go.wp_at_zero Go.wp_at_succ
/-- a string of L bytes -/
def Bts (s : ByteArray) (L : Nat) (f : Nat → Nat) : Prop := s.size = L ∧ ∀ (i : Nat) (h : i < s.size), s[i].toNat = f i
end Go.Proofs.YtgmopcncbpdniaaGreat

/- Parse of the reference at the text of a fraction. -/
namespace Go.Proofs.YtgmopcncbpdniaaGreat
open Go.RowKit
attribute [local go_sem ↓] Go.wp_at_zero Go.wp_at_succ
theorem bts_append {a b : ByteArray} {La Lb : Nat} {fa fb : Nat → Nat} (ha : Bts a La fa) (hb : Bts b Lb fb) : Bts (a ++ b) (La + Lb) (fun i => if i < La then fa i else fb (i - La)) := by
  refine ⟨by rw [ByteArray.size_append, ha.1, hb.1], fun i h => ?_⟩
  dsimp only
  rcases Nat.lt_or_ge i a.size with h1 | h1
  · rw [ByteArray.getElem_append_left h1, if_pos (by rw [← ha.1]; exact h1)]; exact ha.2 i h1
  · have h2 : i - a.size < b.size := by rw [ByteArray.size_append] at h; omega
    rw [ByteArray.getElem_append_right h1, if_neg (by rw [← ha.1]; omega), hb.2 _ h2, ha.1]
theorem bts_cut {s : ByteArray} {L : Nat} {f g : Nat → Nat} (hs : Bts s L f) (i j : Nat) (hij : i ≤ j) (hj : j ≤ L) (hg : ∀ k, k < j - i → f (i + k) = g k) : Bts (s.extract i j) (j - i) g := by
  have hz : (s.extract i j).size = j - i := by rw [ByteArray.size_extract, hs.1, Nat.min_eq_left hj]
  refine ⟨hz, fun k h => ?_⟩
  rw [ByteArray.getElem_extract, hs.2 (i + k) (by rw [hs.1]; omega)]
  exact hg k (by omega)
theorem Bts.congr {s : ByteArray} {L : Nat} {f g : Nat → Nat} (hs : Bts s L f) (hg : ∀ k, k < L → f k = g k) : Bts s L g := ⟨hs.1, fun i h => by rw [hs.2 i h]; exact hg i (by rw [← hs.1]; exact h)⟩
end Go.Proofs.YtgmopcncbpdniaaGreat

/- figures of the reference: the decimal digits of a number. -/
namespace Go.Proofs.YtgmopcncbpdniaaGreat
open Go.RowKit
attribute [local go_sem ↓] Go.wp_at_zero Go.wp_at_succ
theorem conv_bts (W : World) (g c x L : Nat) (h : ∀ i, i < L → W.cell? ⟨g, i, none⟩ = some (.int .u8 (48 + (d10 x (L - 1 - i) : Nat)))) :
    ∃ s, Bts s L (fun i => 48 + d10 x (L - 1 - i)) ∧ (convert 176 9 (.slice (some ⟨g, 0, none⟩) L c)).run Tryz.prog W = .ok (.string s) W := by
  refine ⟨((List.range L).map (fun i => 48 + ((d10 x (L - 1 - i) : Nat) : Int))).foldl (fun r n => r.push (UInt8.ofNat n.toNat)) ByteArray.empty, ?_, ?_⟩
  rotate_left
  · rw [run_convert_bytes_string W 176 9 5 _ _ _ Tryz.underlying176 Tryz.underlying5 Tryz.underlying9,
      run_bytesToString W ⟨g, 0, none⟩ L c ((List.range L).map (fun i => 48 + (d10 x (L - 1 - i) : Nat))) ?_]
    have hl := run_loadCells_list (P := Tryz.prog) W ⟨g, 0, none⟩ (((List.range L).map (fun i => 48 + ((d10 x (L - 1 - i) : Nat) : Int))).map (Value.int .u8)) (fun j v hv => by
      have hj : j < L := by
        have := (List.getElem?_eq_some_iff.1 hv).1
        simpa using this
      simp [hj] at hv
      subst hv
      rw [add_at, Nat.zero_add]
      exact h j hj)
    simpa using hl
  · have hp := foldl_push ((List.range L).map (fun i => 48 + ((d10 x (L - 1 - i) : Nat) : Int))) ByteArray.empty
    generalize (List.map (fun i => 48 + ((d10 x (L - 1 - i) : Nat) : Int)) (List.range L)).foldl (fun r n => r.push (UInt8.ofNat n.toNat)) ByteArray.empty = s at *
    have hs : s.data.size = L := by
      have h2 := congrArg List.length hp
      rw [Array.length_toList] at h2
      rw [h2, List.length_append, List.length_map, List.length_map, List.length_range]
      exact Nat.zero_add L
    refine ⟨hs, fun i hi => ?_⟩
    have hi2 : i < s.data.size := hi
    have h3 : s.data.toList[i]? = some (UInt8.ofNat (48 + d10 x (L - 1 - i))) := by
      rw [hp, show ByteArray.empty.data.toList = [] from rfl, List.nil_append, List.getElem?_map, List.getElem?_map, List.getElem?_range (by omega)]
      rfl
    have h4 : s.data.toList[i]? = some (s[i]) := by
      rw [Array.getElem?_toList, Array.getElem?_eq_getElem hi2]; rfl
    rw [h3] at h4
    rw [← Option.some.inj h4, UInt8.toNat_ofNat']
    have := d10_lt x (L - 1 - i)
    show (48 + d10 x (L - 1 - i)) % 2 ^ 8 = 48 + d10 x (L - 1 - i)
    omega
theorem d10_div (x e : Nat) : d10 (x / 10000) e = d10 x (e + 4) := by
  unfold d10
  rw [Nat.div_div_eq_div_mul, Nat.pow_add, Nat.mul_comm (10 ^ e), show 10 ^ 4 = 10000 from rfl]
theorem d10_mod (x e : Nat) (he : e < 4) : d10 (x % 10000) e = d10 x e := by
  unfold d10
  match e, he with
  | 0, _ => omega
  | 1, _ => omega
  | 2, _ => omega
  | 3, _ => omega
/-- the digits of x above place j of four digits each -/
def figB (x N j : Nat) (i : Nat) : Nat := 48 + d10 (x / 10000 ^ j) (4 * (N - j) - 1 - i)
theorem figB_step {a b : ByteArray} {x N j : Nat} (hj : j + 1 ≤ N) (ha : Bts a (4 * (N - (j + 1))) (figB x N (j + 1))) (hb : Bts b 4 (fun i => 48 + d10 (dg x j) (4 - 1 - i))) : Bts (a ++ b) (4 * (N - j)) (figB x N j) := by
  have h := bts_append ha hb
  have e : 4 * (N - (j + 1)) + 4 = 4 * (N - j) := by omega
  rw [e] at h
  refine h.congr (fun k hk => ?_)
  split
  · rename_i h1
    unfold figB
    congr 1
    rw [Nat.pow_succ, ← Nat.div_div_eq_div_mul, d10_div]
    congr 1
    omega
  · rename_i h1
    unfold figB
    congr 1
    have e2 : dg x j = x / 10000 ^ j % 10000 := rfl
    rw [e2, d10_mod _ _ (by omega)]
    congr 1
    omega
theorem bts_txt {s : ByteArray} {x L : Nat} (h : Bts s L (fun i => 48 + d10 x (L - 1 - i))) (hL : Len10 x L) : IsTxt s x := ⟨L, hL, h.1, fun i hi => h.2 i hi⟩
set_option maxHeartbeats 2000000 in
set_option maxRecDepth 100000 in
theorem figures_any (s : Bool) (u : Value) (x : Nat) (w : World) (hu : Dg w u x) (hn : nd x ≤ 100000000) :
    Calls Tryz.prog 124 #[.agg #[.bool s, u]] w fun e w' => ∃ t, e = .returned (.string t) ∧ IsTxt t x ∧ Below w.heap.size w w' := by
  obtain ⟨a, b, o, c, rfl, hs⟩ := hu
  have HS := Lib.hid hs
  clear hs
  have KW0 := Lib.hid (boxes1 w (.cells #[.bool s, .slice a (nd x) c] 38))
  have O1 := Lib.hid (own2_new w w.heap.size rfl (.bool s) (.slice a (nd x) c) 38)
  have hpos := nd_pos x
  rcases Nat.eq_zero_or_pos x with h0 | h0
  · subst h0
    have e0 : nd 0 = 0 := nd_zero
    rw [e0] at KW0 O1 ⊢
    clear hpos e0 O1
    go_enter Tryz.func124, Tryz.ntmps124
    go_wp2
    go_ret
    exact ⟨_, rfl, isTxt_zero, KW0.out⟩
  · have hN0 : 0 < nd x := hpos.2 h0
    obtain ⟨N, hN⟩ : ∃ N, N = nd x := ⟨_, rfl⟩
    have HN := Lib.hid hN
    have HX := Lib.hid h0
    rw [← hN] at HS KW0 O1 hN0 hn ⊢
    clear hpos hN h0
    have d0 : ((N : Int) == 0) = false := by simp; omega
    have d0n : ¬ N = 0 := by omega
    have S0 : Hid (Bts ByteArray.empty (4 * (N - N)) (figB x N N)) := Lib.hid ⟨by simp, fun i hi => by simp at hi⟩
    go_enter Tryz.func124, Tryz.ntmps124
    go_wp2
    clear d0 d0n
    go_loopw [3, 4, 5, 6] (fun v3 v4 v5 v6 wr => ∃ j : Nat, j ≤ N ∧ v4 = .int .i64 ((j : Int) - 1) ∧ ∃ t, v3 = .string t ∧ Hid (Bts t (4 * (N - j)) (figB x N j)) ∧ Hid (Below w.heap.size w wr) ∧ Hid (Own2 wr w.heap.size (.bool s) (.slice a N c))) (fun _ v4 _ _ _ => (intOf v4 + 1).toNat)
    case atStart => exact ⟨N, by omega, by simp, _, rfl, S0, KW0, O1⟩
    case round =>
      clear S0 KW0 O1
      obtain ⟨j, hj, rfl, t, rfl, HT, KW, O1⟩ := hrel
      have y1 := O1.out.c1
      by_cases h : 0 < j
      · obtain ⟨i, rfl⟩ : ∃ i, j = i + 1 := ⟨j - 1, by omega⟩
        have hiN : i < N := by omega
        have e0 : ((i + 1 : Nat) : Int) - 1 = (i : Int) := by omega
        rw [e0]
        have ix := fun W => ixI HS.out i c hiN W
        have y2 := (HS.out.mono KW.out (Nat.le_refl _)).cell i hiN
        simp only [ic, dI] at y2
        obtain ⟨m, hm⟩ : ∃ m, m = dg x i := ⟨_, rfl⟩
        have hml : m < 10000 := by rw [hm]; exact dg_lt x i
        have HM := Lib.hid hm
        rw [← hm] at y2
        obtain ⟨t4, ht4, hcv⟩ := conv_bts (wr.alloc (.cells #[.int .u8 (48 + (m : Int) / 1000), .int .u8 (48 + (m : Int) / 100 % 10), .int .u8 (48 + (m : Int) / 10 % 10), .int .u8 (48 + (m : Int) % 10)] 5)) wr.heap.size 4 m 4 (fun i hi => by
          match i, hi with
          | 0, _ => simp [go_sem, d10]; omega
          | 1, _ => simp [go_sem, d10]
          | 2, _ => simp [go_sem, d10]
          | 3, _ => simp [go_sem, d10])
        have hsz : ¬ (9223372036854775807 < t.size + t4.size) := by rw [HT.out.1, ht4.1]; omega
        have HT4 := Lib.hid ht4
        have KW1 := Lib.hid (KW.out.alloc KW.out.size (.cells #[.int .u8 (48 + (m : Int) / 1000), .int .u8 (48 + (m : Int) / 100 % 10), .int .u8 (48 + (m : Int) / 10 % 10), .int .u8 (48 + (m : Int) % 10)] 5))
        have O2 := Lib.hid (O1.out.alloc (.cells #[.int .u8 (48 + (m : Int) / 1000), .int .u8 (48 + (m : Int) / 100 % 10), .int .u8 (48 + (m : Int) / 10 % 10), .int .u8 (48 + (m : Int) % 10)] 5))
        clear h e0 hm ht4
        go_wp2
        go_roundw
        case rel => exact ⟨i, by omega, by go_num, _, rfl, Lib.hid (figB_step (by omega) HT.out (by rw [← HM.out]; exact HT4.out)), KW1, O2⟩
        case measure => (simp [intOf] <;> omega)
      · obtain rfl : j = 0 := by omega
        have HT2 : Hid (Bts t (4 * N) (fun i => 48 + d10 x (4 * N - 1 - i))) := Lib.hid (HT.out.congr (fun k _ => by unfold figB; simp))
        have HLT : Hid (x < 10 ^ (4 * N)) := Lib.hid (by
          have := lt_pow_nd x
          rw [← HN.out] at this
          rw [Nat.pow_mul]; exact this)
        have e0 : decide ((0 : Int) ≤ ((0 : Nat) : Int) - 1) = false := by decide
        clear HT h y1 O1
        go_wp2
        go_loopw [3] (fun v3 wr' => ∃ t L, v3 = .string t ∧ Hid (Bts t L (fun i => 48 + d10 x (L - 1 - i))) ∧ Hid (x < 10 ^ L) ∧ L ≤ 4 * N ∧ wr' = wr) (fun v3 _ => match v3 with | .string t => t.size | _ => 0)
        case atStart => exact ⟨t, 4 * N, rfl, HT2, HLT, by omega, rfl⟩
        case round =>
          clear HT2 HLT
          obtain ⟨t, L, rfl, HT2, HLT, hLN, rfl⟩ := hrel
          have hL1 : 1 ≤ L := by
            rcases Nat.eq_zero_or_pos L with e | e
            · have h1 := HLT.out; have h2 := HX.out; rw [e] at h1; simp at h1; omega
            · exact e
          have p0 : 0 < t.size := by rw [HT2.out.1]; exact hL1
          have i0 : (0 : Int) < (t.size : Int) := by omega
          have hx0 : t[0].toNat = 48 + d10 x (L - 1) := HT2.out.2 0 p0
          by_cases hz : d10 x (L - 1) = 0
          · have x0 : t[0].toNat = 48 := by rw [hx0, hz]
            have e3 : (((48 : Nat) : Int) == 48) = true := by decide
            have HC : Hid (Bts (t.extract 1 t.size) (L - 1) (fun i => 48 + d10 x (L - 1 - 1 - i))) := Lib.hid (by
              have := bts_cut (g := fun i => 48 + d10 x (L - 1 - 1 - i)) HT2.out 1 t.size p0 (by rw [HT2.out.1]; exact Nat.le_refl _) (fun k hk => by
                show 48 + d10 x (L - 1 - (1 + k)) = 48 + d10 x (L - 1 - 1 - k)
                rw [Nat.sub_sub (L - 1) 1 k])
              rw [HT2.out.1] at this ⊢
              exact this)
            have HL2 : Hid (x < 10 ^ (L - 1)) := Lib.hid (by
              have h1 := HLT.out
              unfold d10 at hz
              have h2 : 10 ^ L = 10 ^ (L - 1) * 10 := by rw [← Nat.pow_succ]; congr 1; omega
              rw [h2] at h1
              have h3 := Nat.div_lt_of_lt_mul h1
              rw [Nat.mod_eq_of_lt h3] at hz
              have hp : 0 < 10 ^ (L - 1) := Nat.pow_pos (by omega)
              exact Nat.lt_of_not_le (fun hle => by have := Nat.div_pos hle hp; omega))
            have HSZ := Lib.hid HT2.out.1
            have s1 : (1 : Int) ≤ (t.size : Int) := by omega
            clear hx0 hz
            go_wp2
            go_roundw
            case rel => exact ⟨_, L - 1, rfl, HC, HL2, by omega, by first | rfl | trivial⟩
            case measure => simp only; rw [HC.out.1, HSZ.out]; omega
          · obtain ⟨V, hV⟩ : ∃ V, V = 48 + d10 x (L - 1) := ⟨_, rfl⟩
            have x0 : t[0].toNat = V := by rw [hx0, hV]
            have e3 : ((V : Int) == 48) = false := by simp; omega
            have e4 : ¬ V = 48 := by omega
            have HF : Hid (IsTxt t x) := Lib.hid (bts_txt HT2.out ⟨HLT.out, fun e => by have := HX.out; omega, fun _ => ⟨hL1, by
              refine Nat.le_of_not_lt (fun hlt => hz ?_)
              unfold d10
              rw [Nat.div_eq_of_lt hlt]⟩⟩)
            clear hx0 hz hV
            go_wp2
            go_ret
            exact ⟨t, rfl, HF.out, KW.out⟩
end Go.Proofs.YtgmopcncbpdniaaGreat
