/- Num of Rat: the text of a number of any size (at most 4000 digits a part). -/
import Derived.Test.YtolkchkedieppaaGreatZTxt
import Derived.Test.YtolkchkedieppaaGreatZRat5
import Derived.Test.YtolkchkedieppaaGreatZGen
import Derived.Test.YtolkchkedieppaaGreatZPlainR
import Derived.Test.YtolkchkedieppaaGreatZRat3
import Derived.Test.YtolkchkedieppaaGreatZPlainD
import Derived.Test.YtolkchkedieppaaGreatZInt1
set_option linter.unusedVariables false
set_option linter.unusedSimpArgs false
namespace Go.Proofs.YtolkchkedieppaaGreat
open Go.RowKit
attribute [local go_sem ↓] Go.wp_at_zero Go.wp_at_succ
theorem isTxt_zero : IsTxt ⟨#[48]⟩ 0 := ⟨1, ⟨by decide, fun _ => rfl, fun h => by omega⟩, rfl, fun i h => by
 have h2 : i < 1 := h
 obtain rfl : i = 0 := by omega
 rfl⟩
theorem text_zero (u : Value) (w : World) (hu : Mag w u 0) :
  Calls Tryz.prog 125 #[u] w fun e w' => ∃ s, e = .returned (.string s) ∧ IsTxt s 0 ∧ Below w.heap.size w w' := by
 obtain ⟨a0, b0, o0, c0, rfl, i0⟩ := hu
 rw [nl_zero]
 have KW0 := Lib.hid (Below.refl w.heap.size w)
 clear i0
 go_enter Tryz.func125, Tryz.ntmps125
 go_wp2
 go_ret
 exact ⟨_, rfl, isTxt_zero, KW0.out⟩
/-- the text of any number -/
theorem text_all (u : Value) (x : Nat) (w : World) (hu : Mag w u x) (hK : nl x ≤ 1000000000) :
  Calls Tryz.prog 125 #[u] w fun e w' => ∃ s, e = .returned (.string s) ∧ IsTxt s x ∧ Below w.heap.size w w' := by
 rcases Nat.eq_zero_or_pos x with rfl | h
 ·exact text_zero u w hu
 ·exact text_any u x w hu h hK
theorem IsTxt.size {s : ByteArray} {x K : Nat} (h : IsTxt s x) (hK : 1 ≤ K) (hx : x < 10 ^ K) : s.size ≤ K := by
 obtain ⟨L, h1, h2, _⟩ := h
 rw [h2]; exact h1.le hK hx
/-- at most 4000 decimal digits -/
structure MaxD (x : Nat) : Prop where
 lt : x < 10 ^ 4000
/-- with its length's tests decided -/
theorem text_num (u : Value) (x : Nat) (w : World) (hu : Mag w u x) (hx : MaxD x) (hK : nl x ≤ 1000000000) :
  Calls Tryz.prog 125 #[u] w fun e w' => ∃ s, e = .returned (.string s) ∧ decide (4000 < s.size) = false ∧ decide ((4000 : Int) < (s.size : Int)) = false ∧ Hid (s.size ≤ 4000) ∧ Hid (IsTxt s x) ∧ Below w.heap.size w w' := by
 refine (text_all u x w hu hK).mono ?_
 rintro e w' ⟨s, rfl, hs, hb⟩
 have h := hs.size (K := 4000) (by omega) hx.lt
 exact ⟨s, rfl, by simp; omega, by simp; omega, Lib.hid h, Lib.hid hs, hb⟩
theorem nb1 {s : Nat} (h : s ≤ 4000) : ¬ (9223372036854775807 < s + 1) := by omega
theorem nb2 {s : Nat} (h : s ≤ 4000) : ¬ (9223372036854775807 < 1 + s) := by omega
theorem nb3 {s : Nat} (h : s ≤ 4000) : ¬ (9223372036854775807 < 1 + s + 1) := by omega
theorem nb4 {s u : Nat} (h : s ≤ 4000) (h2 : u ≤ 4000) : ¬ (9223372036854775807 < s + 1 + u) := by omega
theorem nb5 {s u : Nat} (h : s ≤ 4000) (h2 : u ≤ 4000) : ¬ (9223372036854775807 < 1 + s + 1 + u) := by omega
set_option maxHeartbeats 2000000 in
theorem rat_num_any (x : Value) (q : Rat) (k : Nat) (w : World) (hx : RatIs w x q k) (hk : k ≤ 1000000000) (hN : MaxD q.num.natAbs) (hD : MaxD q.den) :
  Calls Tryz.prog 74 #[x] w fun e w' => ∃ s, e = .returned (.tuple #[.string s, .int .i64 0]) ∧ FracTxt s q.num q.den ∧ Below w.heap.size w w' := by
 have hx0 := hx
 obtain ⟨u, d, rfl, ⟨a1, b1, o1, c1, rfl, i1⟩, ⟨a2, b2, o2, c2, rfl, i2⟩, h3, h4⟩ := hx
 have HMN : Hid (Mag w (.slice a1 (nl q.num.natAbs) c1) q.num.natAbs) := Lib.hid ⟨a1, b1, o1, c1, rfl, i1⟩
 have HMD : Hid (Mag w (.slice a2 (nl q.den) c2) q.den) := Lib.hid ⟨a2, b2, o2, c2, rfl, i2⟩
 have HX := Lib.hid hx0
 obtain ⟨sg, hsg⟩ : ∃ sg, sg = decide (q.num < 0) := ⟨_, rfl⟩
 obtain ⟨n1, hn1⟩ : ∃ n1, n1 = nl q.num.natAbs := ⟨_, rfl⟩
 obtain ⟨n2, hn2⟩ : ∃ n2, n2 = nl q.den := ⟨_, rfl⟩
 rw [← hsg, ← hn1, ← hn2] at HX
 rw [← hn1] at HMN
 rw [← hn2] at HMD
 rw [← hsg, ← hn1, ← hn2]
 have HSG := Lib.hid hsg
 have H3 := Lib.hid (Nat.le_trans h3 hk)
 have H4 := Lib.hid (Nat.le_trans h4 hk)
 have KW := Lib.hid (boxes1 w (.cells #[.bool sg, .slice a1 n1 c1, .bool false, .slice a2 n2 c2] 115))
 have PO := Lib.hid (own4_new w _ rfl (.bool sg) (.slice a1 n1 c1) (.bool false) (.slice a2 n2 c2) 115)
 have HMN := Lib.hid (HMN.out.mono KW.out (Nat.le_refl _))
 have HMD := Lib.hid (HMD.out.mono KW.out (Nat.le_refl _))
 have HX := Lib.hid (HX.out.mono KW.out (Nat.le_refl _))
 have HN := Lib.hid hN
 have HD := Lib.hid hD
 have HFT : Hid (∀ t, IsTxt t q.num.natAbs → ∀ r, r = (if sg = true then ⟨#[45]⟩ ++ t else t) → (q.den = 1 → FracTxt r q.num q.den) ∧ (q.den ≠ 1 → ∀ u, IsTxt u q.den → FracTxt (r ++ (⟨#[47]⟩ ++ u)) q.num q.den)) := Lib.hid (by
  intro t ht r hr
  have e : r = (if q.num < 0 then ⟨#[45]⟩ ++ t else t) := by
   rw [hr, hsg]; by_cases h : q.num < 0 <;> simp [h]
  subst e
  exact ⟨fun h => ⟨t, ht, .inl ⟨h, rfl⟩⟩, fun h u hu => ⟨t, ht, .inr ⟨h, u, hu, rfl⟩⟩⟩)
 clear hx0 i1 i2 h3 h4 hsg hn1 hn2 hN hD
 cases sg with
 | false =>
  by_cases hd : q.den = 1
  ·have HD1 : Hid (decide (q.den = 1) = true) := Lib.hid (by simpa using hd)
   have HD2 := Lib.hid hd
   clear hd
   go_enter Tryz.func74, Tryz.ntmps74
   go_wp2_with (first
    | (go_at_call 125; (with_reducible refine (text_num _ q.num.natAbs _ HMN.out HN.out H3.out).mono ?_); rintro e w1 ⟨s1, rfl, z1, z2, Z1, HT1, hb1⟩; have ha1 := nb1 Z1.out; have ha2 := nb2 Z1.out; have ha3 := nb3 Z1.out; have KW := Lib.hid (KW.out.trans (hb1.mono KW.out.size)); have HX := Lib.hid (HX.out.mono hb1 (Nat.le_refl _)); have HMD := Lib.hid (HMD.out.mono hb1 (Nat.le_refl _)); have PO := Lib.hid (PO.out.below hb1 PO.out.lt); clear hb1 HMN; obtain ⟨x0, x1, x2, x3, _, _⟩ := PO.out)
    | (go_at_call 123; (with_reducible refine (rat_integer _ q k _ true HD1.out HX.out).mono ?_); rintro e w2 ⟨rfl, hb2⟩; have KW := Lib.hid (KW.out.trans (hb2.mono KW.out.size)); have HMD := Lib.hid (HMD.out.mono hb2 (Nat.le_refl _)); have PO := Lib.hid (PO.out.below hb2 PO.out.lt); clear hb2 x0 x1 x2 x3; obtain ⟨x0, x1, x2, x3, _, _⟩ := PO.out))
   go_ret2
   exact ⟨_, rfl, (HFT.out s1 HT1.out s1 (by simp)).1 HD2.out, KW.out⟩
  ·have HD1 : Hid (decide (q.den = 1) = false) := Lib.hid (by simpa using hd)
   have HD2 := Lib.hid hd
   clear hd
   go_enter Tryz.func74, Tryz.ntmps74
   go_wp2_with (first
    | (go_at_call 125; (with_reducible refine (text_num _ q.num.natAbs _ HMN.out HN.out H3.out).mono ?_); rintro e w1 ⟨s1, rfl, z1, z2, Z1, HT1, hb1⟩; have ha1 := nb1 Z1.out; have ha2 := nb2 Z1.out; have ha3 := nb3 Z1.out; have KW := Lib.hid (KW.out.trans (hb1.mono KW.out.size)); have HX := Lib.hid (HX.out.mono hb1 (Nat.le_refl _)); have HMD := Lib.hid (HMD.out.mono hb1 (Nat.le_refl _)); have PO := Lib.hid (PO.out.below hb1 PO.out.lt); clear hb1 HMN; obtain ⟨x0, x1, x2, x3, _, _⟩ := PO.out)
    | (go_at_call 123; (with_reducible refine (rat_integer _ q k _ false HD1.out HX.out).mono ?_); rintro e w2 ⟨rfl, hb2⟩; have KW := Lib.hid (KW.out.trans (hb2.mono KW.out.size)); have HMD := Lib.hid (HMD.out.mono hb2 (Nat.le_refl _)); have PO := Lib.hid (PO.out.below hb2 PO.out.lt); clear hb2 x0 x1 x2 x3; obtain ⟨x0, x1, x2, x3, _, _⟩ := PO.out)
    | (go_at_call 125; (with_reducible refine (text_num _ q.den _ HMD.out HD.out H4.out).mono ?_); rintro e w3 ⟨s2, rfl, z3, z4, Z2, HT2, hb3⟩; have ha4 := nb4 Z1.out Z2.out; have ha5 := nb5 Z1.out Z2.out; have KW := Lib.hid (KW.out.trans (hb3.mono KW.out.size))))
   go_ret2
   exact ⟨_, rfl, by first | exact (HFT.out s1 HT1.out s1 (by simp)).2 HD2.out s2 HT2.out | (rw [ByteArray.append_assoc]; exact (HFT.out s1 HT1.out s1 (by simp)).2 HD2.out s2 HT2.out), KW.out⟩
 | true =>
  by_cases hd : q.den = 1
  ·have HD1 : Hid (decide (q.den = 1) = true) := Lib.hid (by simpa using hd)
   have HD2 := Lib.hid hd
   clear hd
   go_enter Tryz.func74, Tryz.ntmps74
   go_wp2_with (first
    | (go_at_call 125; (with_reducible refine (text_num _ q.num.natAbs _ HMN.out HN.out H3.out).mono ?_); rintro e w1 ⟨s1, rfl, z1, z2, Z1, HT1, hb1⟩; have ha1 := nb1 Z1.out; have ha2 := nb2 Z1.out; have ha3 := nb3 Z1.out; have KW := Lib.hid (KW.out.trans (hb1.mono KW.out.size)); have HX := Lib.hid (HX.out.mono hb1 (Nat.le_refl _)); have HMD := Lib.hid (HMD.out.mono hb1 (Nat.le_refl _)); have PO := Lib.hid (PO.out.below hb1 PO.out.lt); clear hb1 HMN; obtain ⟨x0, x1, x2, x3, _, _⟩ := PO.out)
    | (go_at_call 123; (with_reducible refine (rat_integer _ q k _ true HD1.out HX.out).mono ?_); rintro e w2 ⟨rfl, hb2⟩; have KW := Lib.hid (KW.out.trans (hb2.mono KW.out.size)); have HMD := Lib.hid (HMD.out.mono hb2 (Nat.le_refl _)); have PO := Lib.hid (PO.out.below hb2 PO.out.lt); clear hb2 x0 x1 x2 x3; obtain ⟨x0, x1, x2, x3, _, _⟩ := PO.out))
   go_ret2
   exact ⟨_, rfl, (HFT.out s1 HT1.out (⟨#[45]⟩ ++ s1) (by simp)).1 HD2.out, KW.out⟩
  ·have HD1 : Hid (decide (q.den = 1) = false) := Lib.hid (by simpa using hd)
   have HD2 := Lib.hid hd
   clear hd
   go_enter Tryz.func74, Tryz.ntmps74
   go_wp2_with (first
    | (go_at_call 125; (with_reducible refine (text_num _ q.num.natAbs _ HMN.out HN.out H3.out).mono ?_); rintro e w1 ⟨s1, rfl, z1, z2, Z1, HT1, hb1⟩; have ha1 := nb1 Z1.out; have ha2 := nb2 Z1.out; have ha3 := nb3 Z1.out; have KW := Lib.hid (KW.out.trans (hb1.mono KW.out.size)); have HX := Lib.hid (HX.out.mono hb1 (Nat.le_refl _)); have HMD := Lib.hid (HMD.out.mono hb1 (Nat.le_refl _)); have PO := Lib.hid (PO.out.below hb1 PO.out.lt); clear hb1 HMN; obtain ⟨x0, x1, x2, x3, _, _⟩ := PO.out)
    | (go_at_call 123; (with_reducible refine (rat_integer _ q k _ false HD1.out HX.out).mono ?_); rintro e w2 ⟨rfl, hb2⟩; have KW := Lib.hid (KW.out.trans (hb2.mono KW.out.size)); have HMD := Lib.hid (HMD.out.mono hb2 (Nat.le_refl _)); have PO := Lib.hid (PO.out.below hb2 PO.out.lt); clear hb2 x0 x1 x2 x3; obtain ⟨x0, x1, x2, x3, _, _⟩ := PO.out)
    | (go_at_call 125; (with_reducible refine (text_num _ q.den _ HMD.out HD.out H4.out).mono ?_); rintro e w3 ⟨s2, rfl, z3, z4, Z2, HT2, hb3⟩; have ha4 := nb4 Z1.out Z2.out; have ha5 := nb5 Z1.out Z2.out; have KW := Lib.hid (KW.out.trans (hb3.mono KW.out.size))))
   go_ret2
   exact ⟨_, rfl, by first | exact (HFT.out s1 HT1.out (⟨#[45]⟩ ++ s1) (by simp)).2 HD2.out s2 HT2.out | (rw [ByteArray.append_assoc]; exact (HFT.out s1 HT1.out (⟨#[45]⟩ ++ s1) (by simp)).2 HD2.out s2 HT2.out), KW.out⟩
end Go.Proofs.YtolkchkedieppaaGreat

/- Texts in a row. -/
namespace Go.Proofs.YtolkchkedieppaaGreat
open Go.RowKit
theorem own_below {w w' : World} {base B e size n : Nat} {v : Value} {xs : List Value} (h : w.ownsRow base e size v n xs) (hb : Below B w w') (hB : w.heap.size ≤ B := by exact Nat.le_refl _) : w'.ownsRow base e size v n xs :=
 h.kept (row := none) ⟨hb.os, hb.tape, hb.output, hb.size, fun k hk _ => hb.block k (Nat.lt_of_lt_of_le hk hB)⟩ (by
  rcases hh : v.ownBlock with _ | g
  ·exact .inl rfl
  ·exact .inr (by intro e; cases e))
theorem infoN : (Tryz.prog.info? 52).map (fun i => (i.zero, i.size, i.bytes)) = some (some (.string ByteArray.empty), 1, 16) := by kernel_rfl
end Go.Proofs.YtolkchkedieppaaGreat

/- Nums of package linear: the texts of numbers of any size. -/
namespace Go.Proofs.YtolkchkedieppaaGreat
open Go.RowKit
attribute [local go_sem ↓] Go.wp_at_zero Go.wp_at_succ
/-- texts, as a list of cells -/
def strL (ss : Nat → ByteArray) (n : Nat) : List Value := (List.range n).map (fun i => .string (ss i))
theorem strL_get (ss : Nat → ByteArray) (n i : Nat) (h : i < n) : (strL ss n)[i]? = some (.string (ss i)) := by simp [strL, h]
def setS (ss : Nat → ByteArray) (k : Nat) (s : ByteArray) (i : Nat) : ByteArray := if i = k then s else ss i
theorem strL_succ (ss : Nat → ByteArray) (k : Nat) (s : ByteArray) : strL ss k ++ [.string s] = strL (setS ss k s) (k + 1) := by
 unfold strL
 rw [List.range_succ, List.map_append]
 congr 1
 ·apply List.map_congr_left
  intro i hi
  have : i < k := List.mem_range.1 hi
  simp [setS, show i ≠ k by omega]
 ·simp [setS]
/-- texts of n numbers -/
structure TxtsOf (n : Nat) (q : Nat → Rat) (ss : Nat → ByteArray) : Prop where
 txt : ∀ j, j < n → FracTxt (ss j) (q j).num (q j).den
theorem TxtsOf.push {k : Nat} {q : Nat → Rat} {ss : Nat → ByteArray} {st : ByteArray} (h : TxtsOf k q ss) (hs : FracTxt st (q k).num (q k).den) : TxtsOf (k + 1) q (setS ss k st) := ⟨fun j hj => by
 unfold setS
 by_cases ej : j = k
 ·rw [if_pos ej, ej]; exact hs
 ·rw [if_neg ej]; exact h.txt j (by omega)⟩
set_option maxHeartbeats 2000000 in
set_option maxRecDepth 100000 in
theorem nums_any (pb n pc : Nat) (q : Nat → Rat) (K : Nat) (w : World) (hp : IsRats w pb 0 n q K) (hK : K ≤ 1000000000) (hn : n ≤ 1000) (hN : ∀ j, j < n → MaxD (q j).num.natAbs ∧ MaxD (q j).den) :
  Calls Tryz.prog 73 #[.slice (some ⟨pb, 0, none⟩) n pc] w fun e w' => ∃ va vk ss, e = .returned (.tuple #[.slice va n vk, .int .i64 0]) ∧ TxtsOf n q ss ∧ w'.ownsRow w.heap.size 52 1 (.slice va n vk) n (strL ss n) ∧ Below w.heap.size w w' := by
 have HP := Lib.hid hp
 have HN := Lib.hid hN
 obtain ⟨i0, hi, hz0, hz1, hz2⟩ := info_parts infoN
 have KW0 := Lib.hid (Below.refl w.heap.size w)
 clear hp hN
 go_enter Tryz.func73, Tryz.ntmps73
 go_wp2
 go_loopw [4, 11] (fun v4 v11 wr => ∃ k : Nat, k ≤ n ∧ v11 = .int .i64 (k : Nat) ∧ ∃ va vk ss, v4 = .slice va k vk ∧ Hid (TxtsOf k q ss) ∧ Hid (wr.ownsRow w.heap.size 52 1 (.slice va k vk) k (strL ss k)) ∧ Hid (Below w.heap.size w wr)) (fun _ v11 _ => n - (intOf v11).toNat)
 case atStart => exact ⟨0, by omega, rfl, none, 0, fun _ => ByteArray.empty, rfl, Lib.hid ⟨fun j hj => by omega⟩, Lib.hid (World.ownsRow_nil _ _ _ _), KW0⟩
 case round =>
  clear KW0
  obtain ⟨k, hk, rfl, va, vk, ss, rfl, TX, OW, KW⟩ := hrel
  by_cases h : k < n
  ·obtain ⟨s, a, m, c, a2, m2, c2, PP, KP⟩ := (HP.out.mono KW.out (Nat.le_refl _)) k h
   rw [Nat.zero_add] at PP
   obtain ⟨x0, x1, x2, x3, xl⟩ := PP
   have ixr := fun W => rowIx pb n pc k h W
   have HX := Lib.hid (KP.mono (boxes1 wr (.cells #[.bool s, .slice a m c, .bool false, .slice a2 m2 c2] 115)) (Nat.le_refl _))
   have KW1 := Lib.hid (KW.out.alloc KW.out.size (.cells #[.bool s, .slice a m c, .bool false, .slice a2 m2 c2] 115))
   have OW1 := Lib.hid (OW.out.alloc (.cells #[.bool s, .slice a m c, .bool false, .slice a2 m2 c2] 115))
   have HNk := Lib.hid (HN.out k h)
   clear KP
   go_wp2_with (first
    | (go_at_call 74; (with_reducible refine (rat_num_any _ (q k) K _ HX.out hK HNk.out.1 HNk.out.2).mono ?_); rintro e w2 ⟨st, rfl, hst, hb2⟩; have TX2 : Hid (TxtsOf (k + 1) q (setS ss k st)) := Lib.hid (TX.out.push hst); have KW2 := Lib.hid (KW1.out.trans (hb2.mono KW1.out.size)); have OW2 := Lib.hid (own_below OW1.out hb2); have HB2 := Lib.hid (Nat.le_trans KW1.out.size hb2.size); clear hb2 hst)
    | (at_builtin; refine wpList_append_own _ rfl (.tmp 23) (.tmp 25) 49 rfl w.heap.size 52 i0 (.string ByteArray.empty) 1 16 Tryz.underlying49 hi hz0 hz1 hz2 rfl (by decide) (.slice va k vk) k (strL ss k) rfl (OW2.out.alloc _) ⟨w2.heap.size, 0, none⟩ 1 1 [.string st] rfl rfl (new1 _ _ _) (one1 _ rfl) (by unfold maxLen; omega) (by omega) (by have := HB2.out; simp; omega) ?_; intro v' w3 hown hgrow _; have hbk := (OW2.out.alloc (.cells #[.string st] 52)).lt; have KW3 := Lib.hid ((KW2.out.alloc KW2.out.size _).grown hgrow (by have := HB2.out; simp; omega) (fun kk e => (hbk kk e).1)); rw [strL_succ] at hown; obtain ⟨va', vk', rfl⟩ := own_shape hown; have OW3 := Lib.hid hown; clear hown hgrow hbk))
   go_roundw
   case rel => exact ⟨k + 1, by omega, by go_num, va', vk', _, rfl, TX2, OW3, KW3⟩
   case measure => simp [intOf]; omega
  ·obtain rfl : k = n := by omega
   go_wp2
   go_ret2
   exact ⟨va, vk, ss, rfl, TX.out, OW.out, KW.out⟩
end Go.Proofs.YtolkchkedieppaaGreat

/- Currents of package hide: what its loops hold. -/
namespace Go.Proofs.YtolkchkedieppaaGreat
open Go.RowKit
/-- what falls along a wire -/
def curQ (W : List (Int × Int)) (x : Nat → Rat) (k : Nat) : Rat := x (wA W k) - x (wB W k)
/-- the least common multiple of the first denominators -/
def uK (q : Nat → Rat) : Nat → Nat
 | 0 => 1
 | k + 1 => uK q k * ((q k).den / Nat.gcd (uK q k) (q k).den)
/-- the greatest common divisor of the first numerators -/
def gK (q : Nat → Rat) (U : Nat) : Nat → Nat
 | 0 => 0
 | k + 1 => Nat.gcd (gK q U k) (q k * ((U : Nat) : Int)).num.natAbs
structure CurOK (m : Nat) (q : Nat → Rat) (KX : Nat) : Prop where
 s1 : ∀ k, k < m → szQ (q k) ≤ KX
 u1 : ∀ k, k ≤ m → nl (uK q k) ≤ KX
 s2 : ∀ k, k < m → szQ (q k * ((uK q m : Nat) : Int)) ≤ KX
 g0 : 0 < gK q (uK q m) m
 s3 : ∀ k, k < m → szQ (q k * ((uK q m : Nat) : Int) / ((gK q (uK q m) m : Nat) : Int)) ≤ KX
 d : ∀ k, k < m → MaxD (q k * ((uK q m : Nat) : Int) / ((gK q (uK q m) m : Nat) : Int)).num.natAbs ∧ MaxD (q k * ((uK q m : Nat) : Int) / ((gK q (uK q m) m : Nat) : Int)).den
theorem IntIs.tight {w : World} {v : Value} {z : Int} {m n : Nat} (h : IntIs w v z m) (hn : nl z.natAbs ≤ n) : IntIs w v z n := by
 obtain ⟨u, rfl, h1, _⟩ := h
 exact ⟨u, rfl, h1, hn⟩
/-- two cells stored anew -/
abbrev st2 (w : World) (b : Nat) (u0 u1 : Value) : World := (w.setCell ⟨b, 0, none⟩ u0).setCell ⟨b, 1, none⟩ u1
theorem size_st2 (w : World) (b : Nat) (u0 u1 : Value) : (st2 w b u0 u1).heap.size = w.heap.size := by simp [st2, World.setCell]
theorem below_st2 {w0 w : World} {B b : Nat} (h : Below B w0 w) (hB : B ≤ b) (u0 u1 : Value) : Below B w0 (st2 w b u0 u1) := (h.setCell hB _).setCell hB _
/-- a box of the call's own that holds an integer of any size -/
structure BoxI (w : World) (b : Nat) (z : Int) (K : Nat) : Prop where
 ex : ∃ s a n c, Own2 w b (.bool s) (.slice a n c) ∧ IntIs w (.agg #[.bool s, .slice a n c]) z K
section
variable {w w' : World} {b b' g n r base K K' : Nat} {z z' : Int} {P : Nat → Prop} {q : Nat → Rat} {v : Value} {xs : List Value}
theorem BoxI.lt (h : BoxI w b z K) : b < w.heap.size := by
 obtain ⟨s, a, n, c, h1, h2⟩ := h.ex
 exact h1.lt
theorem BoxI.below (h : BoxI w b z K) (hb : Below w.heap.size w w') : BoxI w' b z K := by
 obtain ⟨s, a, n, c, h1, h2⟩ := h.ex
 exact ⟨s, a, n, c, h1.below hb h1.lt, h2.mono hb (Nat.le_refl _)⟩
theorem IntIs.st2 {z' : Int} {m : Nat} {u : Value} (h : IntIs w u z' m) (hb : BoxI w b z K) (u0 u1 : Value) : IntIs (st2 w b u0 u1) u z' m := by
 obtain ⟨s, a, n, c, h1, h2⟩ := hb.ex
 exact h.store2 u0 u1 h1.c0 h1.c1 (noInt_bool _) (noInt_slice _ _ _)
theorem RatIs.st2 {x : Rat} {m : Nat} {u : Value} (h : RatIs w u x m) (hb : BoxI w b z K) (u0 u1 : Value) : RatIs (st2 w b u0 u1) u x m := by
 obtain ⟨s, a, n, c, h1, h2⟩ := hb.ex
 exact (h.store1 u0 h1.c0 (noInt_bool _)).store1 u1 (off_set (by decide) h1.c1) (noInt_slice _ _ _)
theorem Own2.anew {x y : Value} (h : Own2 w b x y) (u0 u1 : Value) : Own2 (Proofs.YtolkchkedieppaaGreat.st2 w b u0 u1) b u0 u1 :=
 ⟨off_set (by decide) (self_set h.c0), self_set (off_set (by decide) h.c1), fun o => by simp only [World.frozen?_setCell]; exact h.f o, by rw [size_st2]; exact h.lt⟩
theorem BoxI.set {s : Bool} {a : Option Addr} {n c K' : Nat} (h : BoxI w b z K) (hx : IntIs w (.agg #[.bool s, .slice a n c]) z' K') : BoxI (st2 w b (.bool s) (.slice a n c)) b z' K' := by
 obtain ⟨s', a', n', c', h1, h2⟩ := h.ex
 exact ⟨s, a, n, c, h1.anew _ _, hx.st2 h _ _⟩
theorem BoxI.far2 (h : BoxI w b z K) (h' : BoxI w b' z' K') (hne : b' ≠ b) (u0 u1 : Value) : BoxI (st2 w b' u0 u1) b z K := by
 obtain ⟨s, a, n, c, h1, h2⟩ := h.ex
 exact ⟨s, a, n, c, (h1.setCell b' 0 u0 hne).setCell b' 1 u1 hne, h2.st2 h' _ _⟩
theorem BoxI.far4 {o : Nat} {s t : Bool} {a a2 : Option Addr} {m c m2 c2 : Nat} (h : BoxI w b z K) (hr : Rd4 w g o (.bool s) (.slice a m c) (.bool t) (.slice a2 m2 c2)) (hne : g ≠ b) (u0 u1 u2 u3 : Value) : BoxI (st4 w g o u0 u1 u2 u3) b z K := by
 obtain ⟨s', a', n', c', h1, h2⟩ := h.ex
 refine ⟨s', a', n', c', (((h1.setCell g o u0 hne).setCell g (o + 1) u1 hne).setCell g (o + 2) u2 hne).setCell g (o + 3) u3 hne, ?_⟩
 obtain ⟨u, e, k1, k2⟩ := h2
 exact ⟨u, e, k1.at4 u0 u1 u2 u3 hr (noInt_bool _) (noInt_slice _ _ _) (noInt_bool _) (noInt_slice _ _ _), k2⟩
theorem BoxI.keep' (h : BoxI w b z K) (hk : KindB w v) (hg : w.grownBy w' v.ownBlock) (hne : some b ≠ v.ownBlock) : BoxI w' b z K := by
 obtain ⟨s, a, n, c, h1, h2⟩ := h.ex
 have k : ∀ j, w'.cell? ⟨b, j, none⟩ = w.cell? ⟨b, j, none⟩ := fun j => World.cell?_of_block (hg.block b h1.lt hne)
 refine ⟨s, a, n, c, ⟨(k _).trans h1.c0, (k _).trans h1.c1, fun o => (World.frozen?_of_block (hg.block b h1.lt hne)).trans (h1.f o), Nat.lt_of_lt_of_le h1.lt hg.size⟩, ?_⟩
 obtain ⟨u, e, k1, k2⟩ := h2
 exact ⟨u, e, mag_keep k1 hk hg, k2⟩
theorem RowP.far2 (h : RowP w g n P q K) (h' : BoxI w b z K') (hne : b ≠ g) (u0 u1 : Value) : RowP (st2 w b u0 u1) g n P q K := by
 obtain ⟨s, a, m, c, h1, h2⟩ := h'.ex
 exact RowP.storeFar (RowP.storeFar h u0 h1.c0 (noInt_bool _) hne) u1 (off_set (by decide) h1.c1) (noInt_slice _ _ _) hne
theorem own_st2 {e s : Nat} (h : w.ownsRow base e s v r xs) (b : Nat) (hne : v.ownBlock ≠ some b) (u0 u1 : Value) : (st2 w b u0 u1).ownsRow base e s v r xs :=
 h.kept (row := some b) ⟨rfl, rfl, rfl, by rw [size_st2]; exact Nat.le_refl _, fun k hk hkb => by
  have : k ≠ b := fun e => hkb (by rw [e])
  simp only [Proofs.YtolkchkedieppaaGreat.st2]
  rw [Below.heap_setCell _ _ _ _ this, Below.heap_setCell _ _ _ _ this]⟩ (.inr hne)
theorem kind_st2 (h : KindB w v) (b : Nat) (hne : v.ownBlock ≠ some b) (u0 u1 : Value) : KindB (st2 w b u0 u1) v := fun g hg o' x hx => by
 have : b ≠ g := fun e => hne (by rw [hg, e])
 rw [Proofs.YtolkchkedieppaaGreat.st2, far_set _ _ _ _ _ _ this, far_set _ _ _ _ _ _ this] at hx
 exact h g hg o' x hx
theorem BRow.far2 (h : BRow w base v r q K xs) (h' : BoxI w b z K') (hne : v.ownBlock ≠ some b) (u0 u1 : Value) : BRow (st2 w b u0 u1) base v r q K xs :=
 ⟨kind_st2 h.kind b hne _ _, own_st2 h.own b hne _ _, fun j hj => by
  obtain ⟨s, a, m, c, a2, m2, c2, h1, h2, h3, h4, h5⟩ := h.val j hj
  exact ⟨s, a, m, c, a2, m2, c2, h1, h2, h3, h4, h5.st2 h' _ _⟩⟩
end
/-- what Currents holds while it walks the wires -/
structure CuS (w wx : World) (g n b9 b10 : Nat) (x q : Nat → Rat) (KX k : Nat) (U G : Int) (v : Value) (xs : List Value) : Prop where
 rx : RatRow wx g n x KX
 br : BRow wx w.heap.size v k q KX xs
 u : BoxI wx b9 U KX
 o : BoxI wx b10 G KX
 ne : b9 ≠ b10
 n9 : g ≠ b9
 n10 : g ≠ b10
 v9 : v.ownBlock ≠ some b9
 v10 : v.ownBlock ≠ some b10
 vg : v.ownBlock ≠ some g
 kb : Below w.heap.size w wx
 h9 : w.heap.size ≤ b9
 h10 : w.heap.size ≤ b10
section
variable {w wx wy : World} {g n b9 b10 KX k : Nat} {x q : Nat → Rat} {U G : Int} {v : Value} {xs : List Value}
theorem CuS.below (h : CuS w wx g n b9 b10 x q KX k U G v xs) (hb : Below wx.heap.size wx wy) : CuS w wy g n b9 b10 x q KX k U G v xs :=
 ⟨h.rx.below hb (Nat.le_refl _), h.br.below hb, h.u.below hb, h.o.below hb, h.ne, h.n9, h.n10, h.v9, h.v10, h.vg, h.kb.trans (hb.mono h.kb.size), h.h9, h.h10⟩
theorem CuS.alloc (h : CuS w wx g n b9 b10 x q KX k U G v xs) (o : Obj) : CuS w (wx.alloc o) g n b9 b10 x q KX k U G v xs := h.below (boxes1 _ _)
theorem CuS.setU {U' : Int} {s : Bool} {a : Option Addr} {m c : Nat} (h : CuS w wx g n b9 b10 x q KX k U G v xs) (hx : IntIs wx (.agg #[.bool s, .slice a m c]) U' KX) : CuS w (st2 wx b9 (.bool s) (.slice a m c)) g n b9 b10 x q KX k U' G v xs :=
 ⟨h.rx.far2 h.u (Ne.symm h.n9) _ _, h.br.far2 h.u h.v9 _ _, h.u.set hx, h.o.far2 h.u h.ne _ _, h.ne, h.n9, h.n10, h.v9, h.v10, h.vg, below_st2 h.kb h.h9 _ _, h.h9, h.h10⟩
/-- a store into a block of Rats that is none of these -/
theorem CuS.far4 {b o : Nat} {s t : Bool} {a a2 : Option Addr} {m c m2 c2 : Nat} (h : CuS w wx g n b9 b10 x q KX k U G v xs) (hr : Rd4 wx b o (.bool s) (.slice a m c) (.bool t) (.slice a2 m2 c2)) (hb : w.heap.size ≤ b) (e1 : b ≠ g) (e2 : b ≠ b9) (e3 : b ≠ b10) (e4 : v.ownBlock ≠ some b) (u0 u1 u2 u3 : Value) :
  CuS w (st4 wx b o u0 u1 u2 u3) g n b9 b10 x q KX k U G v xs :=
 ⟨h.rx.far4 _ _ _ _ hr e1, h.br.st4 _ _ _ _ hr e4, h.u.far4 hr e2 _ _ _ _, h.o.far4 hr e3 _ _ _ _, h.ne, h.n9, h.n10, h.v9, h.v10, h.vg, below_st4 h.kb hb _ _ _ _, h.h9, h.h10⟩
theorem CuS.push {v' : Value} {y : Rat} {s : Bool} {a a2 : Option Addr} {m c m2 c2 : Nat} (h : CuS w wx g n b9 b10 x q KX k U G v xs) (hx : RatIs wx (.agg #[.bool s, .slice a m c, .bool false, .slice a2 m2 c2]) y KX) (hq : q k = y)
  (hgrow : wx.grownBy wy v.ownBlock) (hown : wy.ownsRow w.heap.size 115 4 v' (k + 1) (xs ++ [.bool s, .slice a m c, .bool false, .slice a2 m2 c2])) (hblk : v'.ownBlock = v.ownBlock ∨ v'.ownBlock = some wx.heap.size) (hkind : KindB wy v') :
  CuS w wy g n b9 b10 x q KX (k + 1) U G v' (xs ++ [.bool s, .slice a m c, .bool false, .slice a2 m2 c2]) := by
 have far : ∀ P, P < wx.heap.size → v.ownBlock ≠ some P → v'.ownBlock ≠ some P := fun P hP hv => by
  rcases hblk with e | e
  ·rw [e]; exact hv
  ·rw [e]; intro e2; have := Option.some.inj e2; omega
 refine ⟨h.rx.keep' h.br.kind hgrow (Ne.symm h.vg), h.br.push hx hq hgrow hown hkind, h.u.keep' h.br.kind hgrow (Ne.symm h.v9), h.o.keep' h.br.kind hgrow (Ne.symm h.v10), h.ne, h.n9, h.n10, far _ h.u.lt h.v9, far _ h.o.lt h.v10, far _ h.rx.lt h.vg, ?_, h.h9, h.h10⟩
 exact h.kb.grown hgrow h.kb.size (fun kk e => (h.br.own.lt kk e).1)
end
/-- what Currents holds while it makes its numbers integers -/
structure CuL (w wx : World) (gl m b9 b10 : Nat) (q : Nat → Rat) (KX : Nat) (U G : Int) : Prop where
 rl : RatRow wx gl m q KX
 u : BoxI wx b9 U KX
 o : BoxI wx b10 G KX
 ne : b9 ≠ b10
 n9 : gl ≠ b9
 n10 : gl ≠ b10
 hl : w.heap.size ≤ gl
 kb : Below w.heap.size w wx
 h9 : w.heap.size ≤ b9
 h10 : w.heap.size ≤ b10
section
variable {w wx wy : World} {gl m b9 b10 KX i : Nat} {q : Nat → Rat} {U G : Int}
theorem CuL.below (h : CuL w wx gl m b9 b10 q KX U G) (hb : Below wx.heap.size wx wy) : CuL w wy gl m b9 b10 q KX U G :=
 ⟨h.rl.below hb (Nat.le_refl _), h.u.below hb, h.o.below hb, h.ne, h.n9, h.n10, h.hl, h.kb.trans (hb.mono h.kb.size), h.h9, h.h10⟩
theorem CuL.alloc (h : CuL w wx gl m b9 b10 q KX U G) (o : Obj) : CuL w (wx.alloc o) gl m b9 b10 q KX U G := h.below (boxes1 _ _)
theorem CuL.setO {G' : Int} {s : Bool} {a : Option Addr} {n c : Nat} (h : CuL w wx gl m b9 b10 q KX U G) (hx : IntIs wx (.agg #[.bool s, .slice a n c]) G' KX) : CuL w (st2 wx b10 (.bool s) (.slice a n c)) gl m b9 b10 q KX U G' :=
 ⟨h.rl.far2 h.o (Ne.symm h.n10) _ _, h.u.far2 h.o (Ne.symm h.ne) _ _, h.o.set hx, h.ne, h.n9, h.n10, h.hl, below_st2 h.kb h.h10 _ _, h.h9, h.h10⟩
theorem CuL.set {y : Rat} {s : Bool} {a a2 : Option Addr} {n c n2 c2 : Nat} (h : CuL w wx gl m b9 b10 q KX U G) (hi : i < m) (hx : RatIs wx (.agg #[.bool s, .slice a n c, .bool false, .slice a2 n2 c2]) y KX) :
  CuL w (st4 wx gl (i * 4) (.bool s) (.slice a n c) (.bool false) (.slice a2 n2 c2)) gl m b9 b10 (updQ q i y) KX U G := by
 obtain ⟨s', a', m', c', a2', m2', c2', hr, _⟩ := h.rl.cell i hi
 exact ⟨(h.rl.set hi rfl hx).congr (fun j hj _ => ⟨.inr trivial, rfl⟩), h.u.far4 hr h.n9 _ _ _ _, h.o.far4 hr h.n10 _ _ _ _, h.ne, h.n9, h.n10, h.hl, below_st4 h.kb h.hl _ _ _ _, h.h9, h.h10⟩
theorem CuL.congr {q' : Nat → Rat} (h : CuL w wx gl m b9 b10 q KX U G) (e : ∀ j, j < m → q j = q' j) : CuL w wx gl m b9 b10 q' KX U G :=
 ⟨h.rl.congr (fun j hj _ => ⟨trivial, e j hj⟩), h.u, h.o, h.ne, h.n9, h.n10, h.hl, h.kb, h.h9, h.h10⟩
end
theorem uK_succ (q : Nat → Rat) (k : Nat) : ((uK q k : Nat) : Int) * ((((q k).den : Nat) : Int) / ((Int.gcd ((uK q k : Nat) : Int) (((q k).den : Nat) : Int) : Nat) : Int)) = ((uK q (k + 1) : Nat) : Int) := by
 simp only [uK, Int.gcd_natCast_natCast]
 rw [← Int.natCast_ediv, ← Int.natCast_mul]
theorem gK_succ (q : Nat → Rat) (U i : Nat) : ((Int.gcd ((gK q U i : Nat) : Int) (q i * ((U : Nat) : Int)).num : Nat) : Int) = ((gK q U (i + 1) : Nat) : Int) := by
 simp only [gK, Int.gcd, Int.natAbs_natCast]
theorem gcd_den (U : Nat) (x : Rat) : 0 < Int.gcd ((U : Nat) : Int) ((x.den : Nat) : Int) ∧ Int.gcd ((U : Nat) : Int) ((x.den : Nat) : Int) ∣ (((x.den : Nat) : Int)).natAbs := by
 simp only [Int.gcd_natCast_natCast, Int.natAbs_natCast]
 exact ⟨Nat.gcd_pos_of_pos_right _ x.den_pos, Nat.gcd_dvd_right _ _⟩
theorem BoxI.zero {w : World} {b : Nat} (h : Own2 w b (.bool false) (.slice none 0 0)) : BoxI w b 0 0 :=
 ⟨false, none, 0, 0, h, .slice none 0 0, rfl, mag_nil _, Nat.le_refl _⟩
theorem Own4.grown {w w' : World} {b : Nat} {x y z u : Value} {row : Option Nat} (h : Own4 w b x y z u) (hg : w.grownBy w' row) (hne : some b ≠ row) : Own4 w' b x y z u := by
 have k : ∀ j, w'.cell? ⟨b, j, none⟩ = w.cell? ⟨b, j, none⟩ := fun j => World.cell?_of_block (hg.block b h.lt hne)
 exact ⟨(k _).trans h.c0, (k _).trans h.c1, (k _).trans h.c2, (k _).trans h.c3, fun o => (World.frozen?_of_block (hg.block b h.lt hne)).trans (h.f o), Nat.lt_of_lt_of_le h.lt hg.size⟩
theorem Own4.rd0 {w : World} {b : Nat} {x y z u : Value} (h : Own4 w b x y z u) : Rd4 w b 0 x y z u := ⟨h.c0, h.c1, h.c2, h.c3, h.lt⟩
theorem own_le {w : World} {base base' e s r : Nat} {v : Value} {xs : List Value} (h : w.ownsRow base e s v r xs) (hb : base' ≤ base) : w.ownsRow base' e s v r xs := by
 obtain ⟨h1, h2⟩ := h
 refine ⟨h1, h2.imp id ?_⟩
 rintro ⟨g, cap, cur, k1, k2, k3⟩
 exact ⟨g, cap, cur, k1, Nat.le_trans hb k2, k3⟩
/-- a store into a box that is none of these -/
theorem CuS.far2 {w wx : World} {g n b9 b10 KX k b K : Nat} {x q : Nat → Rat} {U G z : Int} {v : Value} {xs : List Value} (h : CuS w wx g n b9 b10 x q KX k U G v xs) (hr : BoxI wx b z K) (hb : w.heap.size ≤ b) (e1 : b ≠ g) (e2 : b ≠ b9) (e3 : b ≠ b10) (e4 : v.ownBlock ≠ some b) (u0 u1 : Value) :
  CuS w (st2 wx b u0 u1) g n b9 b10 x q KX k U G v xs :=
 ⟨h.rx.far2 hr e1 _ _, h.br.far2 hr e4 _ _, h.u.far2 hr e2 _ _, h.o.far2 hr e3 _ _, h.ne, h.n9, h.n10, h.v9, h.v10, h.vg, below_st2 h.kb hb _ _, h.h9, h.h10⟩
theorem CuS.fresh {w wx : World} {g n b9 b10 KX k b : Nat} {x q : Nat → Rat} {U G : Int} {v : Value} {xs : List Value} (h : CuS w wx g n b9 b10 x q KX k U G v xs) (hb : wx.heap.size ≤ b) : w.heap.size ≤ b ∧ b ≠ g ∧ b ≠ b9 ∧ b ≠ b10 ∧ v.ownBlock ≠ some b := by
 have h1 := h.rx.lt
 have h2 := h.u.lt
 have h3 := h.o.lt
 have h4 := h.kb.size
 exact ⟨by omega, by omega, by omega, by omega, fun e => by have := (h.br.own.lt b e).2; omega⟩
end Go.Proofs.YtolkchkedieppaaGreat
