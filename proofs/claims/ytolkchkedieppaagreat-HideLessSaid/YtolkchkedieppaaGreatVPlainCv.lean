/- Nums of package linear: the texts of numbers of any size. -/
import Derived.Test.YtolkchkedieppaaGreatVTxtN
import Derived.Test.YtolkchkedieppaaGreatVPlainE
import Derived.Test.YtolkchkedieppaaGreatVRat3
import Derived.Test.YtolkchkedieppaaGreatVPlainD
import Derived.Test.YtolkchkedieppaaGreatVInt1
import Derived.Test.YtolkchkedieppaaGreatVNetA
import Derived.Maps.AppendAt
import Derived.Deep.RegionHeld3
set_option linter.unusedVariables false
set_option linter.unusedSimpArgs false
namespace Go.Proofs.YtolkchkedieppaaGreat
open Go.RowKit
attribute [local go_sem ↓] Go.wp_at_zero Go.wp_at_succ
/-- texts, as a list of cells -/
def strL (ss : Nat → ByteArray) (n : Nat) : List Value := (List.range n).map (fun i => .string (ss i))
theorem strL_get (ss : Nat → ByteArray) (n i : Nat) (h : i < n) : (strL ss n)[i]? = some (.string (ss i)) := by simp [strL, h]
def setS (ss : Nat → ByteArray) (k : Nat) (s : ByteArray) (i : Nat) : ByteArray := if i = k then s else ss i
theorem strL_succ (ss : Nat → ByteArray) (k : Nat) (s : ByteArray) : strL ss k ++ [.string s] = strL (setS ss k s) (k + 1) := by
 unfold strL
 rw [List.range_succ, List.map_append]
 congr 1
 ·apply List.map_congr_left
  intro i hi
  have : i < k := List.mem_range.1 hi
  simp [setS, show i ≠ k by omega]
 ·simp [setS]
/-- texts of n numbers -/
structure TxtsOf (n : Nat) (q : Nat → Rat) (ss : Nat → ByteArray) : Prop where
 txt : ∀ j, j < n → FracTxt (ss j) (q j).num (q j).den
theorem TxtsOf.push {k : Nat} {q : Nat → Rat} {ss : Nat → ByteArray} {st : ByteArray} (h : TxtsOf k q ss) (hs : FracTxt st (q k).num (q k).den) : TxtsOf (k + 1) q (setS ss k st) := ⟨fun j hj => by
 unfold setS
 by_cases ej : j = k
 ·rw [if_pos ej, ej]; exact hs
 ·rw [if_neg ej]; exact h.txt j (by omega)⟩
set_option maxHeartbeats 2000000 in
set_option maxRecDepth 100000 in
theorem nums_any (pb n pc : Nat) (q : Nat → Rat) (K : Nat) (w : World) (hp : IsRats w pb 0 n q K) (hK : K ≤ 1000000000) (hn : n ≤ 1000) (hN : ∀ j, j < n → MaxD (q j).num.natAbs ∧ MaxD (q j).den) :
  Calls Tryz.prog 73 #[.slice (some ⟨pb, 0, none⟩) n pc] w fun e w' => ∃ va vk ss, e = .returned (.tuple #[.slice va n vk, .int .i64 0]) ∧ TxtsOf n q ss ∧ w'.ownsRow w.heap.size 52 1 (.slice va n vk) n (strL ss n) ∧ Below w.heap.size w w' := by
 have HP := Lib.hid hp
 have HN := Lib.hid hN
 obtain ⟨i0, hi, hz0, hz1, hz2⟩ := info_parts infoN
 have KW0 := Lib.hid (Below.refl w.heap.size w)
 clear hp hN
 go_enter Tryz.func73, Tryz.ntmps73
 go_wp2
 go_loopw [4, 11] (fun v4 v11 wr => ∃ k : Nat, k ≤ n ∧ v11 = .int .i64 (k : Nat) ∧ ∃ va vk ss, v4 = .slice va k vk ∧ Hid (TxtsOf k q ss) ∧ Hid (wr.ownsRow w.heap.size 52 1 (.slice va k vk) k (strL ss k)) ∧ Hid (Below w.heap.size w wr)) (fun _ v11 _ => n - (intOf v11).toNat)
 case atStart => exact ⟨0, by omega, rfl, none, 0, fun _ => ByteArray.empty, rfl, Lib.hid ⟨fun j hj => by omega⟩, Lib.hid (World.ownsRow_nil _ _ _ _), KW0⟩
 case round =>
  clear KW0
  obtain ⟨k, hk, rfl, va, vk, ss, rfl, TX, OW, KW⟩ := hrel
  by_cases h : k < n
  ·obtain ⟨s, a, m, c, a2, m2, c2, PP, KP⟩ := (HP.out.mono KW.out (Nat.le_refl _)) k h
   rw [Nat.zero_add] at PP
   obtain ⟨x0, x1, x2, x3, xl⟩ := PP
   have ixr := fun W => rowIx pb n pc k h W
   have HX := Lib.hid (KP.mono (boxes1 wr (.cells #[.bool s, .slice a m c, .bool false, .slice a2 m2 c2] 115)) (Nat.le_refl _))
   have KW1 := Lib.hid (KW.out.alloc KW.out.size (.cells #[.bool s, .slice a m c, .bool false, .slice a2 m2 c2] 115))
   have OW1 := Lib.hid (OW.out.alloc (.cells #[.bool s, .slice a m c, .bool false, .slice a2 m2 c2] 115))
   have HNk := Lib.hid (HN.out k h)
   clear KP
   go_wp2_with (first
    | (go_at_call 74; (with_reducible refine (rat_num_any _ (q k) K _ HX.out hK HNk.out.1 HNk.out.2).mono ?_); rintro e w2 ⟨st, rfl, hst, hb2⟩; have TX2 : Hid (TxtsOf (k + 1) q (setS ss k st)) := Lib.hid (TX.out.push hst); have KW2 := Lib.hid (KW1.out.trans (hb2.mono KW1.out.size)); have OW2 := Lib.hid (own_below OW1.out hb2); have HB2 := Lib.hid (Nat.le_trans KW1.out.size hb2.size); clear hb2 hst)
    | (at_builtin; refine wpList_append_own _ rfl (.tmp 23) (.tmp 25) 49 rfl w.heap.size 52 i0 (.string ByteArray.empty) 1 16 Tryz.underlying49 hi hz0 hz1 hz2 rfl (by decide) (.slice va k vk) k (strL ss k) rfl (OW2.out.alloc _) ⟨w2.heap.size, 0, none⟩ 1 1 [.string st] rfl rfl (new1 _ _ _) (one1 _ rfl) (by unfold maxLen; omega) (by omega) (by have := HB2.out; simp; omega) ?_; intro v' w3 hown hgrow _; have hbk := (OW2.out.alloc (.cells #[.string st] 52)).lt; have KW3 := Lib.hid ((KW2.out.alloc KW2.out.size _).grown hgrow (by have := HB2.out; simp; omega) (fun kk e => (hbk kk e).1)); rw [strL_succ] at hown; obtain ⟨va', vk', rfl⟩ := own_shape hown; have OW3 := Lib.hid hown; clear hown hgrow hbk))
   go_roundw
   case rel => exact ⟨k + 1, by omega, by go_num, va', vk', _, rfl, TX2, OW3, KW3⟩
   case measure => simp [intOf]; omega
  ·obtain rfl : k = n := by omega
   go_wp2
   go_ret2
   exact ⟨va, vk, ss, rfl, TX.out, OW.out, KW.out⟩
end Go.Proofs.YtolkchkedieppaaGreat

/- Currents of package hide: what its loops hold. -/
namespace Go.Proofs.YtolkchkedieppaaGreat
open Go.RowKit
/-- what falls along a wire -/
def curQ (W : List (Int × Int)) (x : Nat → Rat) (k : Nat) : Rat := x (wA W k) - x (wB W k)
/-- the least common multiple of the first denominators -/
def uK (q : Nat → Rat) : Nat → Nat
 | 0 => 1
 | k + 1 => uK q k * ((q k).den / Nat.gcd (uK q k) (q k).den)
/-- the greatest common divisor of the first numerators -/
def gK (q : Nat → Rat) (U : Nat) : Nat → Nat
 | 0 => 0
 | k + 1 => Nat.gcd (gK q U k) (q k * ((U : Nat) : Int)).num.natAbs
structure CurOK (m : Nat) (q : Nat → Rat) (KX : Nat) : Prop where
 s1 : ∀ k, k < m → szQ (q k) ≤ KX
 u1 : ∀ k, k ≤ m → nl (uK q k) ≤ KX
 s2 : ∀ k, k < m → szQ (q k * ((uK q m : Nat) : Int)) ≤ KX
 g0 : 0 < gK q (uK q m) m
 s3 : ∀ k, k < m → szQ (q k * ((uK q m : Nat) : Int) / ((gK q (uK q m) m : Nat) : Int)) ≤ KX
 d : ∀ k, k < m → MaxD (q k * ((uK q m : Nat) : Int) / ((gK q (uK q m) m : Nat) : Int)).num.natAbs ∧ MaxD (q k * ((uK q m : Nat) : Int) / ((gK q (uK q m) m : Nat) : Int)).den
theorem IntIs.tight {w : World} {v : Value} {z : Int} {m n : Nat} (h : IntIs w v z m) (hn : nl z.natAbs ≤ n) : IntIs w v z n := by
 obtain ⟨u, rfl, h1, _⟩ := h
 exact ⟨u, rfl, h1, hn⟩
/-- two cells stored anew -/
abbrev st2 (w : World) (b : Nat) (u0 u1 : Value) : World := (w.setCell ⟨b, 0, none⟩ u0).setCell ⟨b, 1, none⟩ u1
theorem size_st2 (w : World) (b : Nat) (u0 u1 : Value) : (st2 w b u0 u1).heap.size = w.heap.size := by simp [st2, World.setCell]
theorem below_st2 {w0 w : World} {B b : Nat} (h : Below B w0 w) (hB : B ≤ b) (u0 u1 : Value) : Below B w0 (st2 w b u0 u1) := (h.setCell hB _).setCell hB _
/-- a box of the call's own that holds an integer of any size -/
structure BoxI (w : World) (b : Nat) (z : Int) (K : Nat) : Prop where
 ex : ∃ s a n c, Own2 w b (.bool s) (.slice a n c) ∧ IntIs w (.agg #[.bool s, .slice a n c]) z K
section
variable {w w' : World} {b b' g n r base K K' : Nat} {z z' : Int} {P : Nat → Prop} {q : Nat → Rat} {v : Value} {xs : List Value}
theorem BoxI.lt (h : BoxI w b z K) : b < w.heap.size := by
 obtain ⟨s, a, n, c, h1, h2⟩ := h.ex
 exact h1.lt
theorem BoxI.below (h : BoxI w b z K) (hb : Below w.heap.size w w') : BoxI w' b z K := by
 obtain ⟨s, a, n, c, h1, h2⟩ := h.ex
 exact ⟨s, a, n, c, h1.below hb h1.lt, h2.mono hb (Nat.le_refl _)⟩
theorem IntIs.st2 {z' : Int} {m : Nat} {u : Value} (h : IntIs w u z' m) (hb : BoxI w b z K) (u0 u1 : Value) : IntIs (st2 w b u0 u1) u z' m := by
 obtain ⟨s, a, n, c, h1, h2⟩ := hb.ex
 exact h.store2 u0 u1 h1.c0 h1.c1 (noInt_bool _) (noInt_slice _ _ _)
theorem RatIs.st2 {x : Rat} {m : Nat} {u : Value} (h : RatIs w u x m) (hb : BoxI w b z K) (u0 u1 : Value) : RatIs (st2 w b u0 u1) u x m := by
 obtain ⟨s, a, n, c, h1, h2⟩ := hb.ex
 exact (h.store1 u0 h1.c0 (noInt_bool _)).store1 u1 (off_set (by decide) h1.c1) (noInt_slice _ _ _)
theorem Own2.anew {x y : Value} (h : Own2 w b x y) (u0 u1 : Value) : Own2 (Proofs.YtolkchkedieppaaGreat.st2 w b u0 u1) b u0 u1 :=
 ⟨off_set (by decide) (self_set h.c0), self_set (off_set (by decide) h.c1), fun o => by simp only [World.frozen?_setCell]; exact h.f o, by rw [size_st2]; exact h.lt⟩
theorem BoxI.set {s : Bool} {a : Option Addr} {n c K' : Nat} (h : BoxI w b z K) (hx : IntIs w (.agg #[.bool s, .slice a n c]) z' K') : BoxI (st2 w b (.bool s) (.slice a n c)) b z' K' := by
 obtain ⟨s', a', n', c', h1, h2⟩ := h.ex
 exact ⟨s, a, n, c, h1.anew _ _, hx.st2 h _ _⟩
theorem BoxI.far2 (h : BoxI w b z K) (h' : BoxI w b' z' K') (hne : b' ≠ b) (u0 u1 : Value) : BoxI (st2 w b' u0 u1) b z K := by
 obtain ⟨s, a, n, c, h1, h2⟩ := h.ex
 exact ⟨s, a, n, c, (h1.setCell b' 0 u0 hne).setCell b' 1 u1 hne, h2.st2 h' _ _⟩
theorem BoxI.far4 {o : Nat} {s t : Bool} {a a2 : Option Addr} {m c m2 c2 : Nat} (h : BoxI w b z K) (hr : Rd4 w g o (.bool s) (.slice a m c) (.bool t) (.slice a2 m2 c2)) (hne : g ≠ b) (u0 u1 u2 u3 : Value) : BoxI (st4 w g o u0 u1 u2 u3) b z K := by
 obtain ⟨s', a', n', c', h1, h2⟩ := h.ex
 refine ⟨s', a', n', c', (((h1.setCell g o u0 hne).setCell g (o + 1) u1 hne).setCell g (o + 2) u2 hne).setCell g (o + 3) u3 hne, ?_⟩
 obtain ⟨u, e, k1, k2⟩ := h2
 exact ⟨u, e, k1.at4 u0 u1 u2 u3 hr (noInt_bool _) (noInt_slice _ _ _) (noInt_bool _) (noInt_slice _ _ _), k2⟩
theorem BoxI.keep' (h : BoxI w b z K) (hk : KindB w v) (hg : w.grownBy w' v.ownBlock) (hne : some b ≠ v.ownBlock) : BoxI w' b z K := by
 obtain ⟨s, a, n, c, h1, h2⟩ := h.ex
 have k : ∀ j, w'.cell? ⟨b, j, none⟩ = w.cell? ⟨b, j, none⟩ := fun j => World.cell?_of_block (hg.block b h1.lt hne)
 refine ⟨s, a, n, c, ⟨(k _).trans h1.c0, (k _).trans h1.c1, fun o => (World.frozen?_of_block (hg.block b h1.lt hne)).trans (h1.f o), Nat.lt_of_lt_of_le h1.lt hg.size⟩, ?_⟩
 obtain ⟨u, e, k1, k2⟩ := h2
 exact ⟨u, e, mag_keep k1 hk hg, k2⟩
theorem RowP.far2 (h : RowP w g n P q K) (h' : BoxI w b z K') (hne : b ≠ g) (u0 u1 : Value) : RowP (st2 w b u0 u1) g n P q K := by
 obtain ⟨s, a, m, c, h1, h2⟩ := h'.ex
 exact RowP.storeFar (RowP.storeFar h u0 h1.c0 (noInt_bool _) hne) u1 (off_set (by decide) h1.c1) (noInt_slice _ _ _) hne
theorem own_st2 {e s : Nat} (h : w.ownsRow base e s v r xs) (b : Nat) (hne : v.ownBlock ≠ some b) (u0 u1 : Value) : (st2 w b u0 u1).ownsRow base e s v r xs :=
 h.kept (row := some b) ⟨rfl, rfl, rfl, by rw [size_st2]; exact Nat.le_refl _, fun k hk hkb => by
  have : k ≠ b := fun e => hkb (by rw [e])
  simp only [Proofs.YtolkchkedieppaaGreat.st2]
  rw [Below.heap_setCell _ _ _ _ this, Below.heap_setCell _ _ _ _ this]⟩ (.inr hne)
theorem kind_st2 (h : KindB w v) (b : Nat) (hne : v.ownBlock ≠ some b) (u0 u1 : Value) : KindB (st2 w b u0 u1) v := fun g hg o' x hx => by
 have : b ≠ g := fun e => hne (by rw [hg, e])
 rw [Proofs.YtolkchkedieppaaGreat.st2, far_set _ _ _ _ _ _ this, far_set _ _ _ _ _ _ this] at hx
 exact h g hg o' x hx
theorem BRow.far2 (h : BRow w base v r q K xs) (h' : BoxI w b z K') (hne : v.ownBlock ≠ some b) (u0 u1 : Value) : BRow (st2 w b u0 u1) base v r q K xs :=
 ⟨kind_st2 h.kind b hne _ _, own_st2 h.own b hne _ _, fun j hj => by
  obtain ⟨s, a, m, c, a2, m2, c2, h1, h2, h3, h4, h5⟩ := h.val j hj
  exact ⟨s, a, m, c, a2, m2, c2, h1, h2, h3, h4, h5.st2 h' _ _⟩⟩
end
/-- what Currents holds while it walks the wires -/
structure CuS (w wx : World) (g n b9 b10 : Nat) (x q : Nat → Rat) (KX k : Nat) (U G : Int) (v : Value) (xs : List Value) : Prop where
 rx : RatRow wx g n x KX
 br : BRow wx w.heap.size v k q KX xs
 u : BoxI wx b9 U KX
 o : BoxI wx b10 G KX
 ne : b9 ≠ b10
 n9 : g ≠ b9
 n10 : g ≠ b10
 v9 : v.ownBlock ≠ some b9
 v10 : v.ownBlock ≠ some b10
 vg : v.ownBlock ≠ some g
 kb : Below w.heap.size w wx
 h9 : w.heap.size ≤ b9
 h10 : w.heap.size ≤ b10
section
variable {w wx wy : World} {g n b9 b10 KX k : Nat} {x q : Nat → Rat} {U G : Int} {v : Value} {xs : List Value}
theorem CuS.below (h : CuS w wx g n b9 b10 x q KX k U G v xs) (hb : Below wx.heap.size wx wy) : CuS w wy g n b9 b10 x q KX k U G v xs :=
 ⟨h.rx.below hb (Nat.le_refl _), h.br.below hb, h.u.below hb, h.o.below hb, h.ne, h.n9, h.n10, h.v9, h.v10, h.vg, h.kb.trans (hb.mono h.kb.size), h.h9, h.h10⟩
theorem CuS.alloc (h : CuS w wx g n b9 b10 x q KX k U G v xs) (o : Obj) : CuS w (wx.alloc o) g n b9 b10 x q KX k U G v xs := h.below (boxes1 _ _)
theorem CuS.setU {U' : Int} {s : Bool} {a : Option Addr} {m c : Nat} (h : CuS w wx g n b9 b10 x q KX k U G v xs) (hx : IntIs wx (.agg #[.bool s, .slice a m c]) U' KX) : CuS w (st2 wx b9 (.bool s) (.slice a m c)) g n b9 b10 x q KX k U' G v xs :=
 ⟨h.rx.far2 h.u (Ne.symm h.n9) _ _, h.br.far2 h.u h.v9 _ _, h.u.set hx, h.o.far2 h.u h.ne _ _, h.ne, h.n9, h.n10, h.v9, h.v10, h.vg, below_st2 h.kb h.h9 _ _, h.h9, h.h10⟩
/-- a store into a block of Rats that is none of these -/
theorem CuS.far4 {b o : Nat} {s t : Bool} {a a2 : Option Addr} {m c m2 c2 : Nat} (h : CuS w wx g n b9 b10 x q KX k U G v xs) (hr : Rd4 wx b o (.bool s) (.slice a m c) (.bool t) (.slice a2 m2 c2)) (hb : w.heap.size ≤ b) (e1 : b ≠ g) (e2 : b ≠ b9) (e3 : b ≠ b10) (e4 : v.ownBlock ≠ some b) (u0 u1 u2 u3 : Value) :
  CuS w (st4 wx b o u0 u1 u2 u3) g n b9 b10 x q KX k U G v xs :=
 ⟨h.rx.far4 _ _ _ _ hr e1, h.br.st4 _ _ _ _ hr e4, h.u.far4 hr e2 _ _ _ _, h.o.far4 hr e3 _ _ _ _, h.ne, h.n9, h.n10, h.v9, h.v10, h.vg, below_st4 h.kb hb _ _ _ _, h.h9, h.h10⟩
theorem CuS.push {v' : Value} {y : Rat} {s : Bool} {a a2 : Option Addr} {m c m2 c2 : Nat} (h : CuS w wx g n b9 b10 x q KX k U G v xs) (hx : RatIs wx (.agg #[.bool s, .slice a m c, .bool false, .slice a2 m2 c2]) y KX) (hq : q k = y)
  (hgrow : wx.grownBy wy v.ownBlock) (hown : wy.ownsRow w.heap.size 115 4 v' (k + 1) (xs ++ [.bool s, .slice a m c, .bool false, .slice a2 m2 c2])) (hblk : v'.ownBlock = v.ownBlock ∨ v'.ownBlock = some wx.heap.size) (hkind : KindB wy v') :
  CuS w wy g n b9 b10 x q KX (k + 1) U G v' (xs ++ [.bool s, .slice a m c, .bool false, .slice a2 m2 c2]) := by
 have far : ∀ P, P < wx.heap.size → v.ownBlock ≠ some P → v'.ownBlock ≠ some P := fun P hP hv => by
  rcases hblk with e | e
  ·rw [e]; exact hv
  ·rw [e]; intro e2; have := Option.some.inj e2; omega
 refine ⟨h.rx.keep' h.br.kind hgrow (Ne.symm h.vg), h.br.push hx hq hgrow hown hkind, h.u.keep' h.br.kind hgrow (Ne.symm h.v9), h.o.keep' h.br.kind hgrow (Ne.symm h.v10), h.ne, h.n9, h.n10, far _ h.u.lt h.v9, far _ h.o.lt h.v10, far _ h.rx.lt h.vg, ?_, h.h9, h.h10⟩
 exact h.kb.grown hgrow h.kb.size (fun kk e => (h.br.own.lt kk e).1)
end
/-- what Currents holds while it makes its numbers integers -/
structure CuL (w wx : World) (gl m b9 b10 : Nat) (q : Nat → Rat) (KX : Nat) (U G : Int) : Prop where
 rl : RatRow wx gl m q KX
 u : BoxI wx b9 U KX
 o : BoxI wx b10 G KX
 ne : b9 ≠ b10
 n9 : gl ≠ b9
 n10 : gl ≠ b10
 hl : w.heap.size ≤ gl
 kb : Below w.heap.size w wx
 h9 : w.heap.size ≤ b9
 h10 : w.heap.size ≤ b10
section
variable {w wx wy : World} {gl m b9 b10 KX i : Nat} {q : Nat → Rat} {U G : Int}
theorem CuL.below (h : CuL w wx gl m b9 b10 q KX U G) (hb : Below wx.heap.size wx wy) : CuL w wy gl m b9 b10 q KX U G :=
 ⟨h.rl.below hb (Nat.le_refl _), h.u.below hb, h.o.below hb, h.ne, h.n9, h.n10, h.hl, h.kb.trans (hb.mono h.kb.size), h.h9, h.h10⟩
theorem CuL.alloc (h : CuL w wx gl m b9 b10 q KX U G) (o : Obj) : CuL w (wx.alloc o) gl m b9 b10 q KX U G := h.below (boxes1 _ _)
theorem CuL.setO {G' : Int} {s : Bool} {a : Option Addr} {n c : Nat} (h : CuL w wx gl m b9 b10 q KX U G) (hx : IntIs wx (.agg #[.bool s, .slice a n c]) G' KX) : CuL w (st2 wx b10 (.bool s) (.slice a n c)) gl m b9 b10 q KX U G' :=
 ⟨h.rl.far2 h.o (Ne.symm h.n10) _ _, h.u.far2 h.o (Ne.symm h.ne) _ _, h.o.set hx, h.ne, h.n9, h.n10, h.hl, below_st2 h.kb h.h10 _ _, h.h9, h.h10⟩
theorem CuL.set {y : Rat} {s : Bool} {a a2 : Option Addr} {n c n2 c2 : Nat} (h : CuL w wx gl m b9 b10 q KX U G) (hi : i < m) (hx : RatIs wx (.agg #[.bool s, .slice a n c, .bool false, .slice a2 n2 c2]) y KX) :
  CuL w (st4 wx gl (i * 4) (.bool s) (.slice a n c) (.bool false) (.slice a2 n2 c2)) gl m b9 b10 (updQ q i y) KX U G := by
 obtain ⟨s', a', m', c', a2', m2', c2', hr, _⟩ := h.rl.cell i hi
 exact ⟨(h.rl.set hi rfl hx).congr (fun j hj _ => ⟨.inr trivial, rfl⟩), h.u.far4 hr h.n9 _ _ _ _, h.o.far4 hr h.n10 _ _ _ _, h.ne, h.n9, h.n10, h.hl, below_st4 h.kb h.hl _ _ _ _, h.h9, h.h10⟩
theorem CuL.congr {q' : Nat → Rat} (h : CuL w wx gl m b9 b10 q KX U G) (e : ∀ j, j < m → q j = q' j) : CuL w wx gl m b9 b10 q' KX U G :=
 ⟨h.rl.congr (fun j hj _ => ⟨trivial, e j hj⟩), h.u, h.o, h.ne, h.n9, h.n10, h.hl, h.kb, h.h9, h.h10⟩
end
theorem uK_succ (q : Nat → Rat) (k : Nat) : ((uK q k : Nat) : Int) * ((((q k).den : Nat) : Int) / ((Int.gcd ((uK q k : Nat) : Int) (((q k).den : Nat) : Int) : Nat) : Int)) = ((uK q (k + 1) : Nat) : Int) := by
 simp only [uK, Int.gcd_natCast_natCast]
 rw [← Int.natCast_ediv, ← Int.natCast_mul]
theorem gK_succ (q : Nat → Rat) (U i : Nat) : ((Int.gcd ((gK q U i : Nat) : Int) (q i * ((U : Nat) : Int)).num : Nat) : Int) = ((gK q U (i + 1) : Nat) : Int) := by
 simp only [gK, Int.gcd, Int.natAbs_natCast]
theorem gcd_den (U : Nat) (x : Rat) : 0 < Int.gcd ((U : Nat) : Int) ((x.den : Nat) : Int) ∧ Int.gcd ((U : Nat) : Int) ((x.den : Nat) : Int) ∣ (((x.den : Nat) : Int)).natAbs := by
 simp only [Int.gcd_natCast_natCast, Int.natAbs_natCast]
 exact ⟨Nat.gcd_pos_of_pos_right _ x.den_pos, Nat.gcd_dvd_right _ _⟩
theorem BoxI.zero {w : World} {b : Nat} (h : Own2 w b (.bool false) (.slice none 0 0)) : BoxI w b 0 0 :=
 ⟨false, none, 0, 0, h, .slice none 0 0, rfl, mag_nil _, Nat.le_refl _⟩
theorem Own4.grown {w w' : World} {b : Nat} {x y z u : Value} {row : Option Nat} (h : Own4 w b x y z u) (hg : w.grownBy w' row) (hne : some b ≠ row) : Own4 w' b x y z u := by
 have k : ∀ j, w'.cell? ⟨b, j, none⟩ = w.cell? ⟨b, j, none⟩ := fun j => World.cell?_of_block (hg.block b h.lt hne)
 exact ⟨(k _).trans h.c0, (k _).trans h.c1, (k _).trans h.c2, (k _).trans h.c3, fun o => (World.frozen?_of_block (hg.block b h.lt hne)).trans (h.f o), Nat.lt_of_lt_of_le h.lt hg.size⟩
theorem Own4.rd0 {w : World} {b : Nat} {x y z u : Value} (h : Own4 w b x y z u) : Rd4 w b 0 x y z u := ⟨h.c0, h.c1, h.c2, h.c3, h.lt⟩
theorem own_le {w : World} {base base' e s r : Nat} {v : Value} {xs : List Value} (h : w.ownsRow base e s v r xs) (hb : base' ≤ base) : w.ownsRow base' e s v r xs := by
 obtain ⟨h1, h2⟩ := h
 refine ⟨h1, h2.imp id ?_⟩
 rintro ⟨g, cap, cur, k1, k2, k3⟩
 exact ⟨g, cap, cur, k1, Nat.le_trans hb k2, k3⟩
/-- a store into a box that is none of these -/
theorem CuS.far2 {w wx : World} {g n b9 b10 KX k b K : Nat} {x q : Nat → Rat} {U G z : Int} {v : Value} {xs : List Value} (h : CuS w wx g n b9 b10 x q KX k U G v xs) (hr : BoxI wx b z K) (hb : w.heap.size ≤ b) (e1 : b ≠ g) (e2 : b ≠ b9) (e3 : b ≠ b10) (e4 : v.ownBlock ≠ some b) (u0 u1 : Value) :
  CuS w (st2 wx b u0 u1) g n b9 b10 x q KX k U G v xs :=
 ⟨h.rx.far2 hr e1 _ _, h.br.far2 hr e4 _ _, h.u.far2 hr e2 _ _, h.o.far2 hr e3 _ _, h.ne, h.n9, h.n10, h.v9, h.v10, h.vg, below_st2 h.kb hb _ _, h.h9, h.h10⟩
theorem CuS.fresh {w wx : World} {g n b9 b10 KX k b : Nat} {x q : Nat → Rat} {U G : Int} {v : Value} {xs : List Value} (h : CuS w wx g n b9 b10 x q KX k U G v xs) (hb : wx.heap.size ≤ b) : w.heap.size ≤ b ∧ b ≠ g ∧ b ≠ b9 ∧ b ≠ b10 ∧ v.ownBlock ≠ some b := by
 have h1 := h.rx.lt
 have h2 := h.u.lt
 have h3 := h.o.lt
 have h4 := h.kb.size
 exact ⟨by omega, by omega, by omega, by omega, fun e => by have := (h.br.own.lt b e).2; omega⟩
end Go.Proofs.YtolkchkedieppaaGreat

/- two rows gathered side by side by append, in regions that draw. -/
namespace Go.Proofs.YtolkchkedieppaaGreat
open Go.RowKit
/-- new cells at the head of a block -/
structure Bx (w : World) (b : Nat) (us : List Value) : Prop where
 c : ∀ j u, us[j]? = some u → w.cell? ((⟨b, 0, none⟩ : Addr).add j) = some u
 lt : b < w.heap.size
theorem Bx.below {w w' : World} {b : Nat} {us : List Value} (h : Bx w b us) (hb : Below w.heap.size w w') : Bx w' b us :=
 ⟨fun j u hj => by
  have := h.c j u hj
  rw [add_at] at this ⊢
  exact (hb.cell (p := ⟨b, 0 + j, none⟩) h.lt).trans this, Nat.lt_of_lt_of_le h.lt hb.size⟩
theorem Bx.new1 (w : World) (x : Value) (t : TypeId) : Bx (w.alloc (.cells #[x] t)) w.heap.size [x] := ⟨cell_one_new w x t, by simp⟩
end Go.Proofs.YtolkchkedieppaaGreat

/- A cut covers its rectangle, plainly: squares that do not overlap, counted cell by cell. -/
namespace Go.Proofs.YtolkchkedieppaaGreat
/-- a cell lies in a square -/
def inT (p : Tr) (x y : Int) : Prop := p.a ≤ x ∧ x < p.a + p.c ∧ p.b ≤ y ∧ y < p.b + p.c
instance (p : Tr) (x y : Int) : Decidable (inT p x y) := by unfold inT; infer_instance
def sumZ (f : Nat → Int) : Nat → Int
 | 0 => 0
 | n + 1 => sumZ f n + f n
theorem sumZ_add (f g : Nat → Int) : ∀ n, sumZ (fun i => f i + g i) n = sumZ f n + sumZ g n
 | 0 => rfl
 | n + 1 => by simp only [sumZ, sumZ_add f g n]; omega
theorem sumZ_mul (f : Nat → Int) (c : Int) : ∀ n, sumZ (fun i => f i * c) n = sumZ f n * c
 | 0 => by simp [sumZ]
 | n + 1 => by simp only [sumZ, sumZ_mul f c n, Int.add_mul]
theorem sumZ_zero : ∀ n, sumZ (fun _ => 0) n = 0
 | 0 => rfl
 | n + 1 => by simp [sumZ, sumZ_zero n]
theorem sumZ_congr {f g : Nat → Int} : ∀ {n : Nat}, (∀ i, i < n → f i = g i) → sumZ f n = sumZ g n
 | 0, _ => rfl
 | n + 1, h => by simp only [sumZ]; rw [sumZ_congr (fun i hi => h i (by omega)), h n (by omega)]
theorem sumZ_le {f g : Nat → Int} : ∀ {n : Nat}, (∀ i, i < n → f i ≤ g i) → sumZ f n ≤ sumZ g n
 | 0, _ => Int.le_refl _
 | n + 1, h => by
  simp only [sumZ]
  have := sumZ_le (fun i (hi : i < n) => h i (by omega))
  have := h n (by omega)
  omega
theorem sumZ_const (c : Int) : ∀ n : Nat, sumZ (fun _ => c) n = (n : Int) * c
 | 0 => by simp [sumZ]
 | n + 1 => by simp only [sumZ, sumZ_const c n]; rw [show ((n + 1 : Nat) : Int) = (n : Int) + 1 by omega, Int.add_mul, Int.one_mul]
/-- a sum that reaches its bound reaches it everywhere -/
theorem sumZ_tight {f g : Nat → Int} : ∀ {n : Nat}, (∀ i, i < n → f i ≤ g i) → sumZ g n ≤ sumZ f n → ∀ i, i < n → f i = g i
 | 0, _, _, i, hi => by omega
 | n + 1, h, he, i, hi => by
  simp only [sumZ] at he
  have h1 := sumZ_le (fun i (hi : i < n) => h i (by omega))
  have h2 := h n (by omega)
  by_cases e : i = n
  ·rw [e]; omega
  ·exact sumZ_tight (n := n) (fun i hi => h i (by omega)) (by omega) i (by omega)
/-- how many places of 0 .. n - 1 lie in a .. a + c - 1 -/
theorem sumZ_run (a c : Nat) : ∀ n, sumZ (fun i => if (a : Int) ≤ (i : Int) ∧ (i : Int) < (a : Int) + (c : Int) then 1 else 0) n = ((min (n - a) c : Nat) : Int)
 | 0 => by simp [sumZ]
 | n + 1 => by
  simp only [sumZ, sumZ_run a c n, Nat.min_def]
  split <;> split <;> split <;> omega
/-- how many of the first k squares cover a cell -/
def cvN (S : List Tr) (x y : Int) : Nat → Int
 | 0 => 0
 | k + 1 => cvN S x y k + if inT (S.getD k default) x y then 1 else 0
theorem cvN_nn (S : List Tr) (x y : Int) : ∀ k, 0 ≤ cvN S x y k
 | 0 => by simp [cvN]
 | k + 1 => by have := cvN_nn S x y k; simp only [cvN]; split <;> omega
theorem cvN_ex {S : List Tr} {x y : Int} : ∀ {k : Nat}, 0 < cvN S x y k → ∃ i, i < k ∧ inT (S.getD i default) x y
 | 0, h => by simp [cvN] at h
 | k + 1, h => by
  simp only [cvN] at h
  by_cases e : inT (S.getD k default) x y
  ·exact ⟨k, by omega, e⟩
  ·rw [if_neg e] at h
   obtain ⟨i, hi, q⟩ := cvN_ex (S := S) (x := x) (y := y) (k := k) (by omega)
   exact ⟨i, by omega, q⟩
theorem apT_in {p q : Tr} {x y : Int} (h : ApT p q) (h1 : inT p x y) (h2 : inT q x y) : False := by
 unfold ApT at h
 unfold inT at h1 h2
 omega
theorem cvN_le {S : List Tr} (hap : ∀ i j, j < i → i < S.length → ApT (S.getD i default) (S.getD j default)) (x y : Int) : ∀ k, k ≤ S.length → cvN S x y k ≤ 1
 | 0, _ => by simp [cvN]
 | k + 1, hk => by
  have ih := cvN_le hap x y k (by omega)
  simp only [cvN]
  by_cases e : inT (S.getD k default) x y
  ·rw [if_pos e]
   have : ¬ 0 < cvN S x y k := fun q => by
    obtain ⟨i, hi, h1⟩ := cvN_ex q
    exact apT_in (hap k i hi (by omega)) e h1
   have := cvN_nn S x y k
   omega
  ·rw [if_neg e]; omega
/-- a square inside a rectangle, counted -/
theorem inT_count {p : Tr} {W H : Nat} (h0 : RgT p) (hw : p.a + p.c ≤ (W : Int)) (hh : p.b + p.c ≤ (H : Int)) : sumZ (fun x => sumZ (fun y => if inT p (x : Int) (y : Int) then 1 else 0) H) W = p.c * p.c := by
 obtain ⟨A, hA⟩ := Int.eq_ofNat_of_zero_le h0.a0
 obtain ⟨B, hB⟩ := Int.eq_ofNat_of_zero_le h0.b0
 obtain ⟨C, hC⟩ := Int.eq_ofNat_of_zero_le (show 0 ≤ p.c by have := h0.c0; omega)
 have hi : ∀ x y : Nat, inT p (x : Int) (y : Int) ↔ ((A : Int) ≤ (x : Int) ∧ (x : Int) < (A : Int) + (C : Int)) ∧ ((B : Int) ≤ (y : Int) ∧ (y : Int) < (B : Int) + (C : Int)) := fun x y => by
  unfold inT
  omega
 have e : ∀ x : Nat, sumZ (fun y => if inT p (x : Int) (y : Int) then 1 else 0) H = (if (A : Int) ≤ (x : Int) ∧ (x : Int) < (A : Int) + (C : Int) then 1 else 0) * (C : Int) := fun x => by
  by_cases hx : (A : Int) ≤ (x : Int) ∧ (x : Int) < (A : Int) + (C : Int)
  ·rw [if_pos hx, Int.one_mul]
   have : ∀ y, y < H → (if inT p (x : Int) (y : Int) then (1 : Int) else 0) = if (B : Int) ≤ (y : Int) ∧ (y : Int) < (B : Int) + (C : Int) then 1 else 0 := fun y _ => by
    by_cases q : (B : Int) ≤ (y : Int) ∧ (y : Int) < (B : Int) + (C : Int)
    ·rw [if_pos q, if_pos ((hi x y).2 ⟨hx, q⟩)]
    ·rw [if_neg q, if_neg (fun r => q ((hi x y).1 r).2)]
   rw [sumZ_congr this, sumZ_run]
   omega
  ·rw [if_neg hx, Int.zero_mul]
   have : ∀ y, y < H → (if inT p (x : Int) (y : Int) then (1 : Int) else 0) = 0 := fun y _ => by
    rw [if_neg (fun r => hx ((hi x y).1 r).1)]
   rw [sumZ_congr this, sumZ_zero]
 rw [sumZ_congr (fun x _ => e x), sumZ_mul, sumZ_run, hC]
 congr 1
 omega
theorem cvN_sum {S : List Tr} {W H : Nat} (hr : ∀ i, i < S.length → RgT (S.getD i default)) (hw : ∀ i, i < S.length → (S.getD i default).a + (S.getD i default).c ≤ (W : Int)) (hh : ∀ i, i < S.length → (S.getD i default).b + (S.getD i default).c ≤ (H : Int)) :
  ∀ k, k ≤ S.length → sumZ (fun x => sumZ (fun y => cvN S (x : Int) (y : Int) k) H) W = arT S k
 | 0, _ => by simp only [cvN, sumZ_zero, arT]
 | k + 1, hk => by
  simp only [cvN, arT]
  have e : ∀ x : Nat, sumZ (fun y => cvN S (x : Int) (y : Int) k + if inT (S.getD k default) (x : Int) (y : Int) then 1 else 0) H = sumZ (fun y => cvN S (x : Int) (y : Int) k) H + sumZ (fun y => if inT (S.getD k default) (x : Int) (y : Int) then 1 else 0) H := fun x => sumZ_add _ _ H
  rw [sumZ_congr (fun x _ => e x), sumZ_add, cvN_sum hr hw hh k (by omega), inT_count (hr k (by omega)) (hw k (by omega)) (hh k (by omega))]
/-- the measures bound the squares -/
theorem wdT_ge (S : List Tr) : ∀ k i, i < k → (S.getD i default).a + (S.getD i default).c ≤ wdT S k
 | 0, i, h => by omega
 | k + 1, i, h => by
  simp only [wdT]
  by_cases e : i = k
  ·subst e; split <;> omega
  ·have := wdT_ge S k i (by omega)
   split <;> omega
theorem htT_ge (S : List Tr) : ∀ k i, i < k → (S.getD i default).b + (S.getD i default).c ≤ htT S k
 | 0, i, h => by omega
 | k + 1, i, h => by
  simp only [htT]
  by_cases e : i = k
  ·subst e; split <;> omega
  ·have := htT_ge S k i (by omega)
   split <;> omega
/-- every cell of the rectangle is covered -/
theorem CutOK.covers {S : List Tr} (h : CutOK S) {x y : Int} (hx0 : 0 ≤ x) (hx : x < wdT S S.length) (hy0 : 0 ≤ y) (hy : y < htT S S.length) : ∃ i, i < S.length ∧ inT (S.getD i default) x y := by
 have hm := meas_bound h.rg S.length (Nat.le_refl _)
 obtain ⟨W, hW⟩ := Int.eq_ofNat_of_zero_le hm.1
 obtain ⟨H, hH⟩ := Int.eq_ofNat_of_zero_le hm.2.2.1
 obtain ⟨X, rfl⟩ := Int.eq_ofNat_of_zero_le hx0
 obtain ⟨Y, rfl⟩ := Int.eq_ofNat_of_zero_le hy0
 have hs := cvN_sum (W := W) (H := H) h.rg (fun i hi => by rw [← hW]; exact wdT_ge S _ i hi) (fun i hi => by rw [← hH]; exact htT_ge S _ i hi) S.length (Nat.le_refl _)
 have hle := fun x y => cvN_le h.ap x y S.length (Nat.le_refl _)
 have h1 : ∀ x, x < W → sumZ (fun y => cvN S (x : Int) (y : Int) S.length) H ≤ (H : Int) := fun x _ => by
  have := sumZ_le (n := H) (f := fun y => cvN S (x : Int) (y : Int) S.length) (g := fun _ => 1) (fun y _ => hle _ _)
  rw [sumZ_const] at this
  omega
 have h2 := sumZ_tight h1 (by rw [sumZ_const, hs, h.ar, hW, hH]; exact Int.le_refl _) X (by omega)
 have h3 := sumZ_tight (n := H) (f := fun y => cvN S (X : Int) (y : Int) S.length) (g := fun _ => 1) (fun y _ => hle _ _) (by rw [sumZ_const, h2]; omega) Y (by omega)
 exact cvN_ex (k := S.length) (by omega)
end Go.Proofs.YtolkchkedieppaaGreat
