/- The reference's numbers: Gcd. -/
import Derived.Test.YtolkchkedieppaaGreatZBig16
set_option linter.unusedVariables false
set_option linter.unusedSimpArgs false
namespace Go.Proofs.YtolkchkedieppaaGreat
open Go.RowKit
attribute [local go_sem ↓] Go.wp_at_zero Go.wp_at_succ
/-- the value of a number at or above 0 -/
theorem ZIs.shapeN {w : World} {v : Value} {z : Nat} {m : Nat} (h : ZIs w v ((z : Nat) : Int) m) : ∃ a c, v = .agg #[.bool false, .slice a (nd z) c] ∧ Hid (ZIs w (.agg #[.bool false, .slice a (nd z) c]) ((z : Nat) : Int) m) := by
  have h0 := h
  obtain ⟨u, rfl, ⟨a, b, o, c, rfl, hs⟩, h2⟩ := h
  have e : decide (((z : Nat) : Int) < 0) = false := by simp
  rw [e] at h0 ⊢
  exact ⟨a, c, rfl, h0⟩
theorem ZIs.tight {w : World} {v : Value} {z : Int} {m n : Nat} (h : ZIs w v z m) (hn : nd z.natAbs ≤ n) : ZIs w v z n := by
  obtain ⟨u, rfl, h1, _⟩ := h
  exact ⟨u, rfl, h1, hn⟩
theorem ZIs.digits {w : World} {v : Value} {z : Int} {m : Nat} (h : ZIs w v z m) : nd z.natAbs ≤ m := by
  obtain ⟨u, rfl, h1, h2⟩ := h
  exact h2
theorem zdivmod_nat (a b : Value) (x y : Nat) (k l : Nat) (w : World) (ha : ZIs w a ((x : Nat) : Int) k) (hb : ZIs w b ((y : Nat) : Int) l) (hq : 0 < y) (hk : k ≤ 274877906944) (hl : l ≤ 274877906944) :
    Calls Tryz.prog 127 #[a, b] w fun e w' => ∃ u v, e = .returned (.tuple #[u, v]) ∧ ZIs w' u ((x / y : Nat) : Int) k ∧ ZIs w' v ((x % y : Nat) : Int) l ∧ Below w.heap.size w w' := by
  have b1 := ha.digits
  have b2 := hb.digits
  refine (zdivmod_any a b x y k l w ha hb (by omega) (.inl (by omega)) hk hl).mono ?_
  rintro e w' ⟨u, v, rfl, h1, h2, h3⟩
  refine ⟨u, v, rfl, ?_, ?_, h3⟩
  · exact ZIs.tight (z := ((x / y : Nat) : Int)) h1 (Nat.le_trans (nd_mono (by rw [Int.natAbs_natCast]; exact Nat.div_le_self _ _)) (by simpa using b1))
  · exact ZIs.tight (z := ((x % y : Nat) : Int)) h2 (Nat.le_trans (nd_mono (by rw [Int.natAbs_natCast]; exact Nat.le_of_lt (Nat.mod_lt _ hq))) (by simpa using b2))
theorem zabs_nat (a : Value) (p : Int) (k : Nat) (w : World) (ha : ZIs w a p k) :
    Calls Tryz.prog 80 #[a] w fun e w' => ∃ u c, e = .returned (.agg #[.bool false, .slice u (nd p.natAbs) c]) ∧ Hid (ZIs w' (.agg #[.bool false, .slice u (nd p.natAbs) c]) (p.natAbs : Int) k) ∧ Below w.heap.size w w' := by
  refine (zabs_any a p k w ha).mono ?_
  rintro e w' ⟨r, rfl, hr, hb⟩
  obtain ⟨u, c, rfl, h⟩ := hr.shapeN
  exact ⟨u, c, rfl, h, hb⟩
/-- what a round of Gcd holds -/
structure GcdS (w0 w : World) (a : Option Addr) (c : Nat) (b : Option Addr) (d : Nat) (x y k : Nat) : Prop where
  oa : Own2 w w0.heap.size (.bool false) (.slice a (nd x) c)
  ob : Own2 w (w0.heap.size + 1) (.bool false) (.slice b (nd y) d)
  o0 : Own2 w (w0.heap.size + 1 + 1) (.bool false) (.slice none 0 0)
  zx : ZIs w (.agg #[.bool false, .slice a (nd x) c]) ((x : Nat) : Int) k
  zy : ZIs w (.agg #[.bool false, .slice b (nd y) d]) ((y : Nat) : Int) k
  kw : Below w0.heap.size w0 w
theorem GcdS.below {w0 w w' : World} {a : Option Addr} {c : Nat} {b : Option Addr} {d x y k : Nat} (h : GcdS w0 w a c b d x y k) (hb : Below w.heap.size w w') : GcdS w0 w' a c b d x y k :=
  ⟨h.oa.below hb h.oa.lt, h.ob.below hb h.ob.lt, h.o0.below hb h.o0.lt, h.zx.mono hb (Nat.le_refl _), h.zy.mono hb (Nat.le_refl _), h.kw.trans (hb.mono h.kw.size)⟩
theorem GcdS.alloc {w0 w : World} {a : Option Addr} {c : Nat} {b : Option Addr} {d x y k : Nat} (h : GcdS w0 w a c b d x y k) (o : Obj) : GcdS w0 (w.alloc o) a c b d x y k := h.below ((Below.refl w.heap.size w).alloc (Nat.le_refl _) o)
theorem GcdS.drew {w0 w : World} {a : Option Addr} {c : Nat} {b : Option Addr} {d x y k : Nat} (h : GcdS w0 w a c b d x y k) : GcdS w0 w.drew a c b d x y k := h.below (Below.refl w.heap.size w).drew
theorem ZIs.off2 {w : World} {v : Value} {z : Int} {m b : Nat} {x y : Value} (h : ZIs w v z m) (O : Own2 w b x y) (nx : NoInt x) (ny : NoInt y) (u0 u1 : Value) : ZIs ((w.setCell ⟨b, 0, none⟩ u0).setCell ⟨b, 1, none⟩ u1) v z m :=
  h.store2 u0 u1 O.c0 O.c1 nx ny
theorem Own2.anew2 {w : World} {b : Nat} {x y : Value} (h : Own2 w b x y) (u0 u1 : Value) : Own2 ((w.setCell ⟨b, 0, none⟩ u0).setCell ⟨b, 1, none⟩ u1) b u0 u1 :=
  ⟨off_set (by decide) (self_set h.c0), self_set (off_set (by decide) h.c1), fun o => by rw [World.frozen?_setCell, World.frozen?_setCell]; exact h.f o, by simp only [World.setCell, Array.size_modify]; exact h.lt⟩
theorem Own2.off2 {w : World} {b b' : Nat} {x y : Value} (h : Own2 w b x y) (hne : b' ≠ b) (u0 u1 : Value) : Own2 ((w.setCell ⟨b', 0, none⟩ u0).setCell ⟨b', 1, none⟩ u1) b x y :=
  (h.setCell b' 0 u0 hne).setCell b' 1 u1 hne
/-- both boxes of Gcd stored anew -/
theorem gcd_stored {w0 w : World} {x1 y1 x2 y2 : Value} {a : Option Addr} {c : Nat} {b : Option Addr} {d x y k : Nat} (oa : Own2 w w0.heap.size x1 y1) (ob : Own2 w (w0.heap.size + 1) x2 y2) (o0 : Own2 w (w0.heap.size + 1 + 1) (.bool false) (.slice none 0 0))
    (n1 : NoInt x1) (m1 : NoInt y1) (n2 : NoInt x2) (m2 : NoInt y2)
    (zx : ZIs w (.agg #[.bool false, .slice a (nd x) c]) ((x : Nat) : Int) k) (zy : ZIs w (.agg #[.bool false, .slice b (nd y) d]) ((y : Nat) : Int) k) (kw : Below w0.heap.size w0 w) :
    GcdS w0 ((((w.setCell ⟨w0.heap.size, 0, none⟩ (.bool false)).setCell ⟨w0.heap.size, 1, none⟩ (.slice a (nd x) c)).setCell ⟨w0.heap.size + 1, 0, none⟩ (.bool false)).setCell ⟨w0.heap.size + 1, 1, none⟩ (.slice b (nd y) d)) a c b d x y k :=
  have ob1 := ob.off2 (b' := w0.heap.size) (by omega) (.bool false) (.slice a (nd x) c)
  ⟨(oa.anew2 _ _).off2 (by omega) _ _, ob1.anew2 _ _, (o0.off2 (by omega) _ _).off2 (by omega) _ _,
   (zx.off2 oa n1 m1 _ _).off2 ob1 n2 m2 _ _, (zy.off2 oa n1 m1 _ _).off2 ob1 n2 m2 _ _,
   (((kw.setCell (Nat.le_refl _) _).setCell (Nat.le_refl _) _).setCell (Nat.le_succ _) _).setCell (Nat.le_succ _) _⟩
set_option maxHeartbeats 2000000 in
theorem zgcd_any (x y : Value) (p q : Int) (k : Nat) (w : World) (ha : ZIs w x p k) (hb : ZIs w y q k) (hk : k ≤ 274877906944) :
    Calls Tryz.prog 79 #[x, y] w fun e w' => ∃ r, e = .returned r ∧ ZIs w' r (Int.gcd p q : Nat) k ∧ Below w.heap.size w w' := by
  obtain ⟨s1, a1, n1, c1, rfl, HA⟩ := ha.shape
  obtain ⟨s2, a2, n2, c2, rfl, HQ⟩ := hb.shape
  have bp := Lib.hid ha.digits
  have bq := Lib.hid hb.digits
  clear ha hb
  have KW : Hid (Below w.heap.size w (((w.alloc (Obj.cells #[Value.bool s1, Value.slice a1 n1 c1] 57)).alloc (Obj.cells #[Value.bool s2, Value.slice a2 n2 c2] 57)).alloc (Obj.cells #[.bool false, .slice none 0 0] 57))) := boxes3 w _ _ _
  have KA := Lib.hid (HA.out.mono KW.out (Nat.le_refl _))
  have KB := Lib.hid (HQ.out.mono KW.out (Nat.le_refl _))
  have O1 : Hid (Own2 (((w.alloc (Obj.cells #[Value.bool s1, Value.slice a1 n1 c1] 57)).alloc (Obj.cells #[Value.bool s2, Value.slice a2 n2 c2] 57)).alloc (Obj.cells #[.bool false, .slice none 0 0] 57)) w.heap.size (.bool s1) (.slice a1 n1 c1)) := ((own2_new _ _ rfl _ _ _).alloc _).alloc _
  have O2 : Hid (Own2 (((w.alloc (Obj.cells #[Value.bool s1, Value.slice a1 n1 c1] 57)).alloc (Obj.cells #[Value.bool s2, Value.slice a2 n2 c2] 57)).alloc (Obj.cells #[.bool false, .slice none 0 0] 57)) (w.heap.size + 1) (.bool s2) (.slice a2 n2 c2)) := (own2_new _ _ (by simp) _ _ _).alloc _
  have O3 : Hid (Own2 (((w.alloc (Obj.cells #[Value.bool s1, Value.slice a1 n1 c1] 57)).alloc (Obj.cells #[Value.bool s2, Value.slice a2 n2 c2] 57)).alloc (Obj.cells #[.bool false, .slice none 0 0] 57)) (w.heap.size + 1 + 1) (.bool false) (.slice none 0 0)) := own2_new _ _ (by simp) _ _ _
  clear HA HQ
  go_enter Tryz.func79, Tryz.ntmps79
  go_wp2
  have KW := Lib.hid KW.out.drew
  have KA := Lib.hid KA.out.drew
  have KB := Lib.hid KB.out.drew
  have O1 := Lib.hid O1.out.drew
  have O2 := Lib.hid O2.out.drew
  have O3 := Lib.hid O3.out.drew
  have x10 := O1.out.c0; have x11 := O1.out.c1; have xl1 := O1.out.lt; have xf1 := O1.out.f
  have x20 := O2.out.c0; have x21 := O2.out.c1; have xl2 := O2.out.lt; have xf2 := O2.out.f
  go_region_with (first
    | (go_at_call 80; have X1 := KA.out; clear KA; (with_reducible refine (zabs_nat _ p k _ X1).mono ?_); clear X1; rintro e w1 ⟨a3, c3, rfl, KA2, hb1⟩; have KB := Lib.hid (KB.out.mono hb1 (Nat.le_refl _)); have O1 := Lib.hid (O1.out.below hb1 O1.out.lt); have O2 := Lib.hid (O2.out.below hb1 O2.out.lt); have O3 := Lib.hid (O3.out.below hb1 O3.out.lt); have KW := Lib.hid (KW.out.trans (hb1.mono KW.out.size)); clear x10 x11 xl1 xf1 x20 x21 xl2 xf2; have x10 := O1.out.c0; have x11 := O1.out.c1; have xl1 := O1.out.lt; have xf1 := O1.out.f; have x20 := O2.out.c0; have x21 := O2.out.c1; have xl2 := O2.out.lt; have xf2 := O2.out.f)
    | (go_at_call 80; have X1 := KB.out; clear KB; (with_reducible refine (zabs_nat _ q k _ X1).mono ?_); clear X1; rintro e w2 ⟨a4, c4, rfl, KB2, hb2⟩; have KA2 := Lib.hid (KA2.out.mono hb2 (Nat.le_refl _)); have O1 := Lib.hid (O1.out.below hb2 O1.out.lt); have O2 := Lib.hid (O2.out.below hb2 O2.out.lt); have O3 := Lib.hid (O3.out.below hb2 O3.out.lt); have KW := Lib.hid (KW.out.trans (hb2.mono KW.out.size)); clear x10 x11 xl1 xf1 x20 x21 xl2 xf2; have x10 := O1.out.c0; have x11 := O1.out.c1; have xl1 := O1.out.lt; have xf1 := O1.out.f; have x20 := O2.out.c0; have x21 := O2.out.c1; have xl2 := O2.out.lt; have xf2 := O2.out.f))
  all_goals
    have G0 := Lib.hid (gcd_stored O1.out O2.out O3.out (noInt_bool _) (noInt_slice _ _ _) (noInt_bool _) (noInt_slice _ _ _) KA2.out KB2.out KW.out)
    clear KA2 KB2 KW O1 O2 O3 x10 x11 xl1 xf1 x20 x21 xl2 xf2 hb1 hb2
    generalize ((((w2.setCell ⟨w.heap.size, 0, none⟩ (.bool false)).setCell ⟨w.heap.size, 1, none⟩ (.slice a3 (nd p.natAbs) c3)).setCell ⟨w.heap.size + 1, 0, none⟩ (.bool false)).setCell ⟨w.heap.size + 1, 1, none⟩ (.slice a4 (nd q.natAbs) c4)) = w3 at G0 ⊢
    go_wp2
    go_loopg [] q.natAbs (fun g wr => ∃ (X : Nat) (a : Option Addr) (c : Nat) (b : Option Addr) (d : Nat), Hid (GcdS w wr a c b d X g k) ∧ Hid (Nat.gcd X g = Nat.gcd p.natAbs q.natAbs))
    case atStart => exact ⟨p.natAbs, _, _, _, _, G0, Lib.hid rfl⟩
    case round =>
      obtain ⟨X, a, c, b, d, G, HG⟩ := hrel
      clear G0
      have hpos := nd_pos gk
      have x10 := G.out.oa.c0
      have x11 := G.out.oa.c1
      have xl1 := G.out.oa.lt
      have xf1 := G.out.oa.f
      have x20 := G.out.ob.c0
      have x21 := G.out.ob.c1
      have xl2 := G.out.ob.lt
      have xf2 := G.out.ob.f
      have x30 := G.out.o0.c0
      have x31 := G.out.o0.c1
      have xl3 := G.out.o0.lt
      have xf3 := G.out.o0.f
      by_cases h0 : 0 < gk
      · have h2 : 0 < nd gk := hpos.2 h0
        have d2 : decide ((0 : Int) < ((nd gk : Nat) : Int)) = true := by simp; omega
        have HH := Lib.hid h0
        clear hpos h0
        go_wp2_with (go_at_call 127; (with_reducible refine (zdivmod_nat _ _ X gk k k _ G.out.zx G.out.zy HH.out hk hk).mono ?_); rintro e w1 ⟨u, v, rfl, hu, hv, hb⟩; obtain ⟨a5, c5, rfl, HU⟩ := hu.shapeN; obtain ⟨a6, c6, rfl, HV⟩ := hv.shapeN; clear hu hv; have G := Lib.hid (G.out.below hb); clear x10 x11 xl1 xf1 x20 x21 xl2 xf2 x30 x31 xl3 xf3; have x10 := G.out.oa.c0; have x11 := G.out.oa.c1; have xl1 := G.out.oa.lt; have xf1 := G.out.oa.f; have x20 := G.out.ob.c0; have x21 := G.out.ob.c1; have xl2 := G.out.ob.lt; have xf2 := G.out.ob.f; have x30 := G.out.o0.c0; have x31 := G.out.o0.c1; have xl3 := G.out.o0.lt; have xf3 := G.out.o0.f)
        go_region
        all_goals
          go_wp2
          go_roundg (X % gk)
          case measure => exact Nat.mod_lt _ HH.out
          case rel =>
            refine ⟨gk, b, d, a6, c6, Lib.hid (((gcd_stored G.out.oa G.out.ob G.out.o0 (noInt_bool _) (noInt_slice _ _ _) (noInt_bool _) (noInt_slice _ _ _) G.out.zy HV.out G.out.kw).alloc _).alloc _).drew, Lib.hid ?_⟩
            rw [← HG.out, Nat.gcd_comm gk, ← Nat.gcd_rec, Nat.gcd_comm]
      · have h2 : ¬ 0 < nd gk := fun q => h0 (hpos.1 q)
        have d2 : decide ((0 : Int) < ((nd gk : Nat) : Int)) = false := by simp; omega
        have HH := Lib.hid h0
        clear hpos h0
        go_wp2
        refine bodyPost_ret (v := .agg #[.bool false, .slice a (nd X) c]) (by simp [results, Tryz.results79, go_sem, x30, x31, xf3]) rfl ?_
        have e0 : gk = 0 := by have := HH.out; omega
        have e1 : X = Nat.gcd p.natAbs q.natAbs := by have := HG.out; rw [e0, Nat.gcd_zero_right] at this; exact this
        refine ⟨_, rfl, ?_, (G.out.kw.setCell (by dsimp only; omega) _).setCell (by dsimp only; omega) _⟩
        have := G.out.zx.off2 G.out.o0 (noInt_bool _) (noInt_slice _ _ _) (.bool false) (.slice a (nd X) c)
        rw [e1] at this ⊢
        exact this
end Go.Proofs.YtolkchkedieppaaGreat
