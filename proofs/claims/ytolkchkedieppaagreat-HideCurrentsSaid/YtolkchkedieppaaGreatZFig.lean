/- The reference's fractions as rational numbers: Lowest, Over, DivQ, Make. -/
import Derived.Test.YtolkchkedieppaaGreatZQVa
import Derived.Test.YtolkchkedieppaaGreatZBig17
import Derived.Test.YtolkchkedieppaaGreatZRMat
import Derived.Test.YtolkchkedieppaaGreatZCurG
import Derived.Test.YtolkchkedieppaaGreatZPlainD
import Derived.Test.YtolkchkedieppaaGreatZQShp
import Derived.Test.YtolkchkedieppaaGreatZBig16
import Derived.Test.YtolkchkedieppaaGreatZRat4
import Derived.Maps.AppendAt
import Derived.Laws.Rows
import Derived.RegionTactic
import Derived.Test.YtolkchkedieppaaGreatZPlainR
import Derived.Test.YtolkchkedieppaaGreatZCurA
set_option linter.unusedVariables false
set_option linter.unusedSimpArgs false
namespace Go.Proofs.YtolkchkedieppaaGreat
open Go.RowKit
attribute [local go_sem ↓] Go.wp_at_zero Go.wp_at_succ
theorem qv_add (x y : Value) (a b : Rat) (k : Nat) (w : World) (hx : QV w x a k) (hy : QV w y b k) (hk : k ≤ 274877906940) :
    Calls Tryz.prog 81 #[x, y] w fun ex w' => ∃ r, ex = .returned r ∧ QV w' r (a + b) (2 * k + 1) ∧ Below w.heap.size w w' := by
  obtain ⟨p, d, h1, e1⟩ := hx
  obtain ⟨q, e, h2, e2⟩ := hy
  refine (qadd_any x y p d q e k w h1 h2 hk).mono ?_
  rintro ex w' ⟨r, rfl, hr, hb⟩
  exact ⟨r, rfl, ⟨_, _, hr, by rw [Rat.intCast_add, Rat.intCast_mul, Rat.intCast_mul, Rat.intCast_mul, e1, e2]; grind⟩, hb⟩
theorem qv_sub (x y : Value) (a b : Rat) (k : Nat) (w : World) (hx : QV w x a k) (hy : QV w y b k) (hk : k ≤ 274877906940) :
    Calls Tryz.prog 82 #[x, y] w fun ex w' => ∃ r, ex = .returned r ∧ QV w' r (a - b) (2 * k + 1) ∧ Below w.heap.size w w' := by
  obtain ⟨p, d, h1, e1⟩ := hx
  obtain ⟨q, e, h2, e2⟩ := hy
  refine (qsub_any x y p d q e k w h1 h2 hk).mono ?_
  rintro ex w' ⟨r, rfl, hr, hb⟩
  exact ⟨r, rfl, ⟨_, _, hr, by rw [Rat.intCast_sub, Rat.intCast_mul, Rat.intCast_mul, Rat.intCast_mul, e1, e2]; grind⟩, hb⟩
theorem qv_cmp (x y : Value) (a b : Rat) (k : Nat) (w : World) (hx : QV w x a k) (hy : QV w y b k) (hk : k ≤ 274877906940) :
    Calls Tryz.prog 85 #[x, y] w fun ex w' => ex = .returned (.int .i64 (cmpR a b)) ∧ Below w.heap.size w w' := by
  obtain ⟨p, d, h1, e1⟩ := hx
  obtain ⟨q, e, h2, e2⟩ := hy
  have g1 := h1.pos
  have g2 := h2.pos
  refine (qcmp_any x y p d q e k w h1 h2 hk).mono ?_
  rintro ex w' ⟨rfl, hb⟩
  exact ⟨by rw [sgZ_cmp g1 g2 e1 e2], hb⟩
/-- Sign of the numerator -/
theorem qv_sign {s t : Bool} {u u2 : Value} (a : Rat) (k : Nat) (w : World) (h : QV w (.agg #[.bool s, u, .bool t, u2]) a k) :
    Calls Tryz.prog 83 #[.agg #[.bool s, u]] w fun ex w' => ex = .returned (.int .i64 (cmpR a 0)) ∧ Below w.heap.size w w' := by
  obtain ⟨p, d, h1, e1⟩ := h
  obtain ⟨s1, u1, s2, u2', h0, g1, g2, g3⟩ := h1
  injection h0 with h0
  injection h0 with h0
  simp only [List.cons.injEq, and_true] at h0
  obtain ⟨h0, h00, -, -⟩ := h0
  injection h0 with h0
  subst h0 h00
  refine (bsign_any _ p k w g1).mono ?_
  rintro ex w' ⟨rfl, hb⟩
  exact ⟨by rw [sgZ_cmp0 g3 e1], hb⟩
end Go.Proofs.YtolkchkedieppaaGreat

/- Qs of the reference, nums of the laws. -/
namespace Go.Proofs.YtolkchkedieppaaGreat
open Go.RowKit
attribute [local go_sem ↓] Go.wp_at_zero Go.wp_at_succ
theorem infoZQ : (Tryz.prog.info? 59).map (fun i => (i.zero, i.size, i.bytes)) = some (some (.agg #[.bool false, .slice none 0 0, .bool false, .slice none 0 0]), 4, 64) := by kernel_rfl
theorem kindz_made (w : World) (t : TypeId) (n c : Nat) : KindZ (w.alloc (.cells #[] t)) (.slice (some ⟨w.heap.size, 0, none⟩) n c) := fun g hg o x hx => by
  have : w.heap.size = g := Option.some.inj hg
  subst this
  rw [cell_of (t := t) (fr := (0, 0)) (heap_alloc_new w _)] at hx
  simp at hx
theorem qrow_start (w : World) (p d : Nat → Int) (K : Nat) : QRow (w.alloc (.cells #[] 59)) w.heap.size (.slice (some ⟨w.heap.size, 0, none⟩) 0 0) 0 p d K [] :=
  QRow.nil _ _ _ _ _ _ (World.ownsRow_made (e := 59) (base := w.heap.size) (size := 4) w #[] 0 (Nat.le_refl _) (by unfold maxLen; omega) rfl) (kindz_made _ _ _ _)
def qN (q : Nat → Rat) (j : Nat) : Int := (q j).num
def qD (q : Nat → Rat) (j : Nat) : Int := ((q j).den : Nat)
set_option maxHeartbeats 2000000 in
set_option maxRecDepth 100000 in
theorem qs_any (v : Value) (n : Nat) (q : Nat → Rat) (ss : Nat → ByteArray) (w : World) (hv : Strs w v n ss) (hn : n ≤ 1000) (hq : TxtQs n q ss) :
    Calls Tryz.prog 84 #[v] w fun e w' => ∃ va vk xs, e = .returned (.slice va n vk) ∧ QRow w' w.heap.size (.slice va n vk) n (qN q) (qD q) 1000 xs ∧ Below w.heap.size w w' := by
  obtain ⟨a, b, o, c, rfl, hs⟩ := hv
  obtain ⟨i0, hi, hz0, hz1, hz2⟩ := info_parts infoZQ
  have HS := Lib.hid hs
  have HQ := Lib.hid hq
  have KW0 := Lib.hid ((Below.refl w.heap.size w).alloc (Nat.le_refl _) (.cells #[] 59))
  have R0 := Lib.hid (qrow_start w (qN q) (qD q) 1000)
  clear hs hq
  go_enter Tryz.func84, Tryz.ntmps84
  go_wp2
  go_loopw [3, 4] (fun v3 v4 wr => ∃ k : Nat, k ≤ n ∧ v4 = .int .i64 (k : Nat) ∧ ∃ va vk xs, v3 = .slice va k vk ∧ Hid (QRow wr w.heap.size (.slice va k vk) k (qN q) (qD q) 1000 xs) ∧ Hid (Below w.heap.size w wr)) (fun _ v4 _ => n - (intOf v4).toNat)
  case atStart => exact ⟨0, by omega, rfl, _, 0, [], rfl, R0, KW0⟩
  case round =>
    clear R0 KW0
    obtain ⟨k, hk, rfl, va, vk, xs, rfl, R, KW⟩ := hrel
    by_cases h : k < n
    · have x0 := (HS.out.mono KW.out (Nat.le_refl _)).cell k h
      have ix := fun W => ixN HS.out k c h W
      go_wp2_with (first
        | (go_at_call 78; (with_reducible refine (of_any _ (q k) _ (HQ.out.txt k h)).mono ?_); rintro e w2 ⟨s2, a2, n2, c2, t2, b2, l2, k2, rfl, Q2, hb2⟩; have KW2 := Lib.hid ((KW.out.trans (hb2.out.mono KW.out.size)).alloc (KW.out.trans (hb2.out.mono KW.out.size)).size (.cells #[.bool s2, .slice a2 n2 c2, .bool t2, .slice b2 l2 k2] 59)); have R2 := Lib.hid ((R.out.below hb2.out).alloc (.cells #[.bool s2, .slice a2 n2 c2, .bool t2, .slice b2 l2 k2] 59)); have NEW := Lib.hid (own4_rd (own4_new w2 w2.heap.size rfl (.bool s2) (.slice a2 n2 c2) (.bool t2) (.slice b2 l2 k2) 59)); have Q3 := Lib.hid (Q2.out.alloc (.cells #[.bool s2, .slice a2 n2 c2, .bool t2, .slice b2 l2 k2] 59)); have HA3 : Hid (w.heap.size ≤ (w2.alloc (.cells #[.bool s2, .slice a2 n2 c2, .bool t2, .slice b2 l2 k2] 59)).heap.size) := Lib.hid KW2.out.size)
        | (at_builtin; go_loud (refine wpList_append_kindz rfl (.tmp 12) (.tmp 18) 126 rfl w.heap.size 59 i0 (.agg #[.bool false, .slice none 0 0, .bool false, .slice none 0 0]) 4 64 Tryz.underlying126 hi hz0 hz1 hz2 rfl (by decide) (.slice va k vk) k xs rfl R2.out.own R2.out.kind (noInt_4 _ _ _ _ _ _ _ _) ⟨w2.heap.size, 0, none⟩ 1 1 [.bool s2, .slice a2 n2 c2, .bool t2, .slice b2 l2 k2] rfl rfl (cells4' NEW.out) (one4' _ _ _ _ rfl rfl rfl rfl) (noInt_4 _ _ _ _ _ _ _ _) (by unfold maxLen; omega) (by omega) HA3.out (by omega) ?_; intro v' w7 hown hgrow hblk hkind; obtain ⟨va', vk', rfl⟩ := own_shape hown; have HOWN := Lib.hid hown; have HGROW := Lib.hid hgrow; have HKIND := Lib.hid hkind; clear hown hgrow hblk hkind)))
      go_roundw
      case rel => exact ⟨k + 1, by omega, by go_num, va', vk', _, rfl, Lib.hid (R2.out.push Q3.out rfl rfl HGROW.out HOWN.out HKIND.out), Lib.hid (KW2.out.grown HGROW.out HA3.out (fun kk e => (R2.out.own.lt kk e).1))⟩
      case measure => simp [intOf]; omega
    · obtain rfl : n = k := by omega
      go_wp2
      go_ret
      exact ⟨va, vk, xs, rfl, R.out, KW.out⟩
end Go.Proofs.YtolkchkedieppaaGreat

/- Rows and matrices of the reference's fractions in memory of a call's own. -/
namespace Go.Proofs.YtolkchkedieppaaGreat
open Go.RowKit
theorem ZIs.atR {w : World} {v : Value} {z : Int} {m g o : Nat} {s t : Bool} {a a2 : Option Addr} {n c n2 c2 : Nat} (h : ZIs w v z m) (u0 u1 u2 u3 : Value) (hr : Rd4 w g o (.bool s) (.slice a n c) (.bool t) (.slice a2 n2 c2)) :
    ZIs (st4 w g o u0 u1 u2 u3) v z m :=
  (((h.setCell u0 hr.c0 (noInt_bool _)).setCell u1 (off_set (by omega) hr.c1) (noInt_slice _ _ _)).setCell u2 (off_set (by omega) (off_set (by omega) hr.c2)) (noInt_bool _)).setCell u3 (off_set (by omega) (off_set (by omega) (off_set (by omega) hr.c3))) (noInt_slice _ _ _)
theorem QV.atR {w : World} {v : Value} {q : Rat} {m g o : Nat} {s t : Bool} {a a2 : Option Addr} {n c n2 c2 : Nat} (h : QV w v q m) (u0 u1 u2 u3 : Value) (hr : Rd4 w g o (.bool s) (.slice a n c) (.bool t) (.slice a2 n2 c2)) :
    QV (st4 w g o u0 u1 u2 u3) v q m := by
  obtain ⟨p, d, ⟨s1, v1, s2, v2, h0, h1, h2, h3⟩, e⟩ := h
  exact ⟨p, d, ⟨s1, v1, s2, v2, h0, h1.atR _ _ _ _ hr, h2.atR _ _ _ _ hr, h3⟩, e⟩
theorem QV.store1 {w : World} {v : Value} {q : Rat} {m : Nat} {p : Addr} {v0 : Value} (h : QV w v q m) (u : Value) (hp : w.cell? p = some v0) (hn : NoInt v0) : QV (w.setCell p u) v q m := by
  obtain ⟨x, d, ⟨s1, v1, s2, v2, h0, h1, h2, h3⟩, e⟩ := h
  exact ⟨x, d, ⟨s1, v1, s2, v2, h0, h1.setCell u hp hn, h2.setCell u hp hn, h3⟩, e⟩
/-- n fractions in a block of the call's own, those of P with their values; K bounds their digits -/
structure RowV (w : World) (g n : Nat) (P : Nat → Prop) (q : Nat → Rat) (K : Nat → Nat) : Prop where
  cell : ∀ j, j < n → ∃ s a m c t a2 m2 c2, Rd4 w g (j * 4) (.bool s) (.slice a m c) (.bool t) (.slice a2 m2 c2) ∧ (P j → QV w (.agg #[.bool s, .slice a m c, .bool t, .slice a2 m2 c2]) (q j) (K j))
  f : ∀ o, w.frozen? ⟨g, o, none⟩ = false
  lt : g < w.heap.size
section
variable {w w' : World} {g n B i o : Nat} {P : Nat → Prop} {q : Nat → Rat} {K : Nat → Nat}
theorem RowV.below (h : RowV w g n P q K) (hb : Below B w w') (hB : w.heap.size ≤ B) : RowV w' g n P q K :=
  ⟨fun j hj => by
    obtain ⟨s, a, m, c, t, a2, m2, c2, h1, h2⟩ := h.cell j hj
    exact ⟨s, a, m, c, t, a2, m2, c2, h1.below hb (Nat.lt_of_lt_of_le h1.lt hB), fun p => (h2 p).mono hb hB⟩,
   fun o => (hb.frozen (p := ⟨g, o, none⟩) (Nat.lt_of_lt_of_le h.lt hB)).trans (h.f o), Nat.lt_of_lt_of_le h.lt hb.size⟩
def updN (K : Nat → Nat) (i x : Nat) : Nat → Nat := fun j => if j = i then x else K j
theorem RowV.set (h : RowV w g n P q K) (hi : i < n) (ho : o = i * 4) {s t : Bool} {a a2 : Option Addr} {m c m2 c2 k : Nat} {x : Rat}
    (hx : QV w (.agg #[.bool s, .slice a m c, .bool t, .slice a2 m2 c2]) x k) :
    RowV (st4 w g o (.bool s) (.slice a m c) (.bool t) (.slice a2 m2 c2)) g n (fun j => j = i ∨ P j) (updQ q i x) (updN K i k) := by
  subst ho
  obtain ⟨s', a', m', c', t', a2', m2', c2', hr, hv⟩ := h.cell i hi
  refine ⟨fun j hj => ?_, fun o => by rw [frozen_st4]; exact h.f o, by rw [size_st4]; exact h.lt⟩
  by_cases e : j = i
  · subst e
    exact ⟨s, a, m, c, t, a2, m2, c2, hr.anew _ _ _ _, fun _ => by rw [updQ, if_pos rfl, updN, if_pos rfl]; exact hx.atR _ _ _ _ hr⟩
  · obtain ⟨s1, a1, m1, c1, t1, b1, m3, c3, hr1, hv1⟩ := h.cell j hj
    exact ⟨s1, a1, m1, c1, t1, b1, m3, c3, hr1.off _ _ _ _ (by omega), fun p => by rw [updQ, if_neg e, updN, if_neg e]; exact (hv1 (p.resolve_left e)).atR _ _ _ _ hr⟩
theorem RowV.keep (h : RowV w g n P q K) (hi : i < n) (ho : o = i * 4) (u0 u1 u2 u3 : Value) {v : Value} {x : Rat} {m : Nat} (hx : QV w v x m) : QV (st4 w g o u0 u1 u2 u3) v x m := by
  subst ho
  obtain ⟨s', a', m', c', t', a2', m2', c2', hr, hv⟩ := h.cell i hi
  exact hx.atR _ _ _ _ hr
theorem RowV.congr {P' : Nat → Prop} {q' : Nat → Rat} {K' : Nat → Nat} (h : RowV w g n P q K) (hP : ∀ j, j < n → P' j → P j ∧ q j = q' j ∧ K j ≤ K' j) : RowV w g n P' q' K' :=
  ⟨fun j hj => by
    obtain ⟨s, a, m, c, t, a2, m2, c2, hr, hv⟩ := h.cell j hj
    exact ⟨s, a, m, c, t, a2, m2, c2, hr, fun p => by rw [← (hP j hj p).2.1]; exact (hv (hP j hj p).1).le (hP j hj p).2.2⟩, h.f, h.lt⟩
theorem RowV.storeFar {b o : Nat} (h : RowV w g n P q K) (u : Value) {v0 : Value} (hp : w.cell? ⟨b, o, none⟩ = some v0) (hn : NoInt v0) (hne : b ≠ g) : RowV (w.setCell ⟨b, o, none⟩ u) g n P q K :=
  ⟨fun j hj => by
    obtain ⟨s, a, m, c, t, a2, m2, c2, hr, hv⟩ := h.cell j hj
    exact ⟨s, a, m, c, t, a2, m2, c2, ⟨(far_set _ _ _ _ _ _ hne).trans hr.c0, (far_set _ _ _ _ _ _ hne).trans hr.c1, (far_set _ _ _ _ _ _ hne).trans hr.c2, (far_set _ _ _ _ _ _ hne).trans hr.c3, by simp only [World.setCell, Array.size_modify]; exact hr.lt⟩, fun p => (hv p).store1 u hp hn⟩,
   fun o' => by rw [World.frozen?_setCell]; exact h.f o', by simp only [World.setCell, Array.size_modify]; exact h.lt⟩
theorem RowV.made (w : World) (n : Nat) (q : Nat → Rat) (K : Nat → Nat) : RowV (w.alloc (.cells (madeCells zR (n * 4)) 59)) w.heap.size n (fun _ => False) q K := by
  have h : (w.alloc (.cells (madeCells zR (n * 4)) 59)).rowIs w.heap.size 59 (n * 4) (repR zero4 0) :=
    ⟨madeCells zR (n * 4), by unfold World.alloc; simp, size_madeCells _ _, fun i hi => by rw [made_zero4 _ _ hi]; unfold repR; rw [if_neg (by omega)]⟩
  have e : ∀ j r, r < 4 → j < n → repR zero4 0 (j * 4 + r) = pat4 (.bool false) (.slice none 0 0) (.bool false) (.slice none 0 0) r := fun j r hr hj => by
    unfold repR; rw [if_neg (by omega)]; unfold zero4 pat4; rw [show (j * 4 + r) % 4 = r % 4 by omega]
  refine ⟨fun j hj => ⟨false, none, 0, 0, false, none, 0, 0, ⟨?_, ?_, ?_, ?_, h.lt⟩, fun p => p.elim⟩, fun o => h.frozen o, h.lt⟩
  · rw [h.cell (i := j * 4) (by omega)]; congr 1; exact e j 0 (by omega) hj
  · rw [h.cell (i := j * 4 + 1) (by omega)]; congr 1; exact e j 1 (by omega) hj
  · rw [h.cell (i := j * 4 + 2) (by omega)]; congr 1; exact e j 2 (by omega) hj
  · rw [h.cell (i := j * 4 + 3) (by omega)]; congr 1; exact e j 3 (by omega) hj
end
section
variable {w w' : World} {B g k cols B' : Nat} {rb rc : Nat → Nat} {Q : Nat → Nat → Rat} {K : Nat → Nat → Nat}
end
end Go.Proofs.YtolkchkedieppaaGreat

/- figures of the reference: the decimal digits of a number. -/
namespace Go.Proofs.YtolkchkedieppaaGreat
open Go.RowKit
attribute [local go_sem ↓] Go.wp_at_zero Go.wp_at_succ
theorem conv_bts (W : World) (g c x L : Nat) (h : ∀ i, i < L → W.cell? ⟨g, i, none⟩ = some (.int .u8 (48 + (d10 x (L - 1 - i) : Nat)))) :
    ∃ s, Bts s L (fun i => 48 + d10 x (L - 1 - i)) ∧ (convert 42 9 (.slice (some ⟨g, 0, none⟩) L c)).run Tryz.prog W = .ok (.string s) W := by
  refine ⟨((List.range L).map (fun i => 48 + ((d10 x (L - 1 - i) : Nat) : Int))).foldl (fun r n => r.push (UInt8.ofNat n.toNat)) ByteArray.empty, ?_, ?_⟩
  rotate_left
  · rw [run_convert_bytes_string W 42 9 5 _ _ _ Tryz.underlying42 Tryz.underlying5 Tryz.underlying9,
      run_bytesToString W ⟨g, 0, none⟩ L c ((List.range L).map (fun i => 48 + (d10 x (L - 1 - i) : Nat))) ?_]
    have hl := run_loadCells_list (P := Tryz.prog) W ⟨g, 0, none⟩ (((List.range L).map (fun i => 48 + ((d10 x (L - 1 - i) : Nat) : Int))).map (Value.int .u8)) (fun j v hv => by
      have hj : j < L := by
        have := (List.getElem?_eq_some_iff.1 hv).1
        simpa using this
      simp [hj] at hv
      subst hv
      rw [add_at, Nat.zero_add]
      exact h j hj)
    simpa using hl
  · have hp := foldl_push ((List.range L).map (fun i => 48 + ((d10 x (L - 1 - i) : Nat) : Int))) ByteArray.empty
    generalize (List.map (fun i => 48 + ((d10 x (L - 1 - i) : Nat) : Int)) (List.range L)).foldl (fun r n => r.push (UInt8.ofNat n.toNat)) ByteArray.empty = s at *
    have hs : s.data.size = L := by
      have h2 := congrArg List.length hp
      rw [Array.length_toList] at h2
      rw [h2, List.length_append, List.length_map, List.length_map, List.length_range]
      exact Nat.zero_add L
    refine ⟨hs, fun i hi => ?_⟩
    have hi2 : i < s.data.size := hi
    have h3 : s.data.toList[i]? = some (UInt8.ofNat (48 + d10 x (L - 1 - i))) := by
      rw [hp, show ByteArray.empty.data.toList = [] from rfl, List.nil_append, List.getElem?_map, List.getElem?_map, List.getElem?_range (by omega)]
      rfl
    have h4 : s.data.toList[i]? = some (s[i]) := by
      rw [Array.getElem?_toList, Array.getElem?_eq_getElem hi2]; rfl
    rw [h3] at h4
    rw [← Option.some.inj h4, UInt8.toNat_ofNat']
    have := d10_lt x (L - 1 - i)
    show (48 + d10 x (L - 1 - i)) % 2 ^ 8 = 48 + d10 x (L - 1 - i)
    omega
theorem d10_div (x e : Nat) : d10 (x / 10000) e = d10 x (e + 4) := by
  unfold d10
  rw [Nat.div_div_eq_div_mul, Nat.pow_add, Nat.mul_comm (10 ^ e), show 10 ^ 4 = 10000 from rfl]
theorem d10_mod (x e : Nat) (he : e < 4) : d10 (x % 10000) e = d10 x e := by
  unfold d10
  match e, he with
  | 0, _ => omega
  | 1, _ => omega
  | 2, _ => omega
  | 3, _ => omega
/-- the digits of x above place j of four digits each -/
def figB (x N j : Nat) (i : Nat) : Nat := 48 + d10 (x / 10000 ^ j) (4 * (N - j) - 1 - i)
theorem figB_step {a b : ByteArray} {x N j : Nat} (hj : j + 1 ≤ N) (ha : Bts a (4 * (N - (j + 1))) (figB x N (j + 1))) (hb : Bts b 4 (fun i => 48 + d10 (dg x j) (4 - 1 - i))) : Bts (a ++ b) (4 * (N - j)) (figB x N j) := by
  have h := bts_append ha hb
  have e : 4 * (N - (j + 1)) + 4 = 4 * (N - j) := by omega
  rw [e] at h
  refine h.congr (fun k hk => ?_)
  split
  · rename_i h1
    unfold figB
    congr 1
    rw [Nat.pow_succ, ← Nat.div_div_eq_div_mul, d10_div]
    congr 1
    omega
  · rename_i h1
    unfold figB
    congr 1
    have e2 : dg x j = x / 10000 ^ j % 10000 := rfl
    rw [e2, d10_mod _ _ (by omega)]
    congr 1
    omega
theorem bts_txt {s : ByteArray} {x L : Nat} (h : Bts s L (fun i => 48 + d10 x (L - 1 - i))) (hL : Len10 x L) : IsTxt s x := ⟨L, hL, h.1, fun i hi => h.2 i hi⟩
set_option maxHeartbeats 2000000 in
set_option maxRecDepth 100000 in
theorem figures_any (s : Bool) (u : Value) (x : Nat) (w : World) (hu : Dg w u x) (hn : nd x ≤ 100000000) :
    Calls Tryz.prog 131 #[.agg #[.bool s, u]] w fun e w' => ∃ t, e = .returned (.string t) ∧ IsTxt t x ∧ Below w.heap.size w w' := by
  obtain ⟨a, b, o, c, rfl, hs⟩ := hu
  have HS := Lib.hid hs
  clear hs
  have KW0 := Lib.hid (boxes1 w (.cells #[.bool s, .slice a (nd x) c] 57))
  have O1 := Lib.hid (own2_new w w.heap.size rfl (.bool s) (.slice a (nd x) c) 57)
  have hpos := nd_pos x
  rcases Nat.eq_zero_or_pos x with h0 | h0
  · subst h0
    have e0 : nd 0 = 0 := nd_zero
    rw [e0] at KW0 O1 ⊢
    clear hpos e0 O1
    go_enter Tryz.func131, Tryz.ntmps131
    go_wp2
    go_ret
    exact ⟨_, rfl, isTxt_zero, KW0.out⟩
  · have hN0 : 0 < nd x := hpos.2 h0
    obtain ⟨N, hN⟩ : ∃ N, N = nd x := ⟨_, rfl⟩
    have HN := Lib.hid hN
    have HX := Lib.hid h0
    rw [← hN] at HS KW0 O1 hN0 hn ⊢
    clear hpos hN h0
    have d0 : ((N : Int) == 0) = false := by simp; omega
    have d0n : ¬ N = 0 := by omega
    have S0 : Hid (Bts ByteArray.empty (4 * (N - N)) (figB x N N)) := Lib.hid ⟨by simp, fun i hi => by simp at hi⟩
    go_enter Tryz.func131, Tryz.ntmps131
    go_wp2
    clear d0 d0n
    go_loopw [3, 4, 5, 6] (fun v3 v4 v5 v6 wr => ∃ j : Nat, j ≤ N ∧ v4 = .int .i64 ((j : Int) - 1) ∧ ∃ t, v3 = .string t ∧ Hid (Bts t (4 * (N - j)) (figB x N j)) ∧ Hid (Below w.heap.size w wr) ∧ Hid (Own2 wr w.heap.size (.bool s) (.slice a N c))) (fun _ v4 _ _ _ => (intOf v4 + 1).toNat)
    case atStart => exact ⟨N, by omega, by simp, _, rfl, S0, KW0, O1⟩
    case round =>
      clear S0 KW0 O1
      obtain ⟨j, hj, rfl, t, rfl, HT, KW, O1⟩ := hrel
      have y1 := O1.out.c1
      by_cases h : 0 < j
      · obtain ⟨i, rfl⟩ : ∃ i, j = i + 1 := ⟨j - 1, by omega⟩
        have hiN : i < N := by omega
        have e0 : ((i + 1 : Nat) : Int) - 1 = (i : Int) := by omega
        rw [e0]
        have ix := fun W => ixI HS.out i c hiN W
        have y2 := (HS.out.mono KW.out (Nat.le_refl _)).cell i hiN
        simp only [ic, dI] at y2
        obtain ⟨m, hm⟩ : ∃ m, m = dg x i := ⟨_, rfl⟩
        have hml : m < 10000 := by rw [hm]; exact dg_lt x i
        have HM := Lib.hid hm
        rw [← hm] at y2
        obtain ⟨t4, ht4, hcv⟩ := conv_bts (wr.alloc (.cells #[.int .u8 (48 + (m : Int) / 1000), .int .u8 (48 + (m : Int) / 100 % 10), .int .u8 (48 + (m : Int) / 10 % 10), .int .u8 (48 + (m : Int) % 10)] 5)) wr.heap.size 4 m 4 (fun i hi => by
          match i, hi with
          | 0, _ => simp [go_sem, d10]; omega
          | 1, _ => simp [go_sem, d10]
          | 2, _ => simp [go_sem, d10]
          | 3, _ => simp [go_sem, d10])
        have hsz : ¬ (9223372036854775807 < t.size + t4.size) := by rw [HT.out.1, ht4.1]; omega
        have HT4 := Lib.hid ht4
        have KW1 := Lib.hid (KW.out.alloc KW.out.size (.cells #[.int .u8 (48 + (m : Int) / 1000), .int .u8 (48 + (m : Int) / 100 % 10), .int .u8 (48 + (m : Int) / 10 % 10), .int .u8 (48 + (m : Int) % 10)] 5))
        have O2 := Lib.hid (O1.out.alloc (.cells #[.int .u8 (48 + (m : Int) / 1000), .int .u8 (48 + (m : Int) / 100 % 10), .int .u8 (48 + (m : Int) / 10 % 10), .int .u8 (48 + (m : Int) % 10)] 5))
        clear h e0 hm ht4
        go_wp2
        go_roundw
        case rel => exact ⟨i, by omega, by go_num, _, rfl, Lib.hid (figB_step (by omega) HT.out (by rw [← HM.out]; exact HT4.out)), KW1, O2⟩
        case measure => (simp [intOf] <;> omega)
      · obtain rfl : j = 0 := by omega
        have HT2 : Hid (Bts t (4 * N) (fun i => 48 + d10 x (4 * N - 1 - i))) := Lib.hid (HT.out.congr (fun k _ => by unfold figB; simp))
        have HLT : Hid (x < 10 ^ (4 * N)) := Lib.hid (by
          have := lt_pow_nd x
          rw [← HN.out] at this
          rw [Nat.pow_mul]; exact this)
        have e0 : decide ((0 : Int) ≤ ((0 : Nat) : Int) - 1) = false := by decide
        clear HT h y1 O1
        go_wp2
        go_loopw [3] (fun v3 wr' => ∃ t L, v3 = .string t ∧ Hid (Bts t L (fun i => 48 + d10 x (L - 1 - i))) ∧ Hid (x < 10 ^ L) ∧ L ≤ 4 * N ∧ wr' = wr) (fun v3 _ => match v3 with | .string t => t.size | _ => 0)
        case atStart => exact ⟨t, 4 * N, rfl, HT2, HLT, by omega, rfl⟩
        case round =>
          clear HT2 HLT
          obtain ⟨t, L, rfl, HT2, HLT, hLN, rfl⟩ := hrel
          have hL1 : 1 ≤ L := by
            rcases Nat.eq_zero_or_pos L with e | e
            · have h1 := HLT.out; have h2 := HX.out; rw [e] at h1; simp at h1; omega
            · exact e
          have p0 : 0 < t.size := by rw [HT2.out.1]; exact hL1
          have i0 : (0 : Int) < (t.size : Int) := by omega
          have hx0 : t[0].toNat = 48 + d10 x (L - 1) := HT2.out.2 0 p0
          by_cases hz : d10 x (L - 1) = 0
          · have x0 : t[0].toNat = 48 := by rw [hx0, hz]
            have e3 : (((48 : Nat) : Int) == 48) = true := by decide
            have HC : Hid (Bts (t.extract 1 t.size) (L - 1) (fun i => 48 + d10 x (L - 1 - 1 - i))) := Lib.hid (by
              have := bts_cut (g := fun i => 48 + d10 x (L - 1 - 1 - i)) HT2.out 1 t.size p0 (by rw [HT2.out.1]; exact Nat.le_refl _) (fun k hk => by
                show 48 + d10 x (L - 1 - (1 + k)) = 48 + d10 x (L - 1 - 1 - k)
                rw [Nat.sub_sub (L - 1) 1 k])
              rw [HT2.out.1] at this ⊢
              exact this)
            have HL2 : Hid (x < 10 ^ (L - 1)) := Lib.hid (by
              have h1 := HLT.out
              unfold d10 at hz
              have h2 : 10 ^ L = 10 ^ (L - 1) * 10 := by rw [← Nat.pow_succ]; congr 1; omega
              rw [h2] at h1
              have h3 := Nat.div_lt_of_lt_mul h1
              rw [Nat.mod_eq_of_lt h3] at hz
              have hp : 0 < 10 ^ (L - 1) := Nat.pow_pos (by omega)
              exact Nat.lt_of_not_le (fun hle => by have := Nat.div_pos hle hp; omega))
            have HSZ := Lib.hid HT2.out.1
            have s1 : (1 : Int) ≤ (t.size : Int) := by omega
            clear hx0 hz
            go_wp2
            go_roundw
            case rel => exact ⟨_, L - 1, rfl, HC, HL2, by omega, by first | rfl | trivial⟩
            case measure => simp only; rw [HC.out.1, HSZ.out]; omega
          · obtain ⟨V, hV⟩ : ∃ V, V = 48 + d10 x (L - 1) := ⟨_, rfl⟩
            have x0 : t[0].toNat = V := by rw [hx0, hV]
            have e3 : ((V : Int) == 48) = false := by simp; omega
            have e4 : ¬ V = 48 := by omega
            have HF : Hid (IsTxt t x) := Lib.hid (bts_txt HT2.out ⟨HLT.out, fun e => by have := HX.out; omega, fun _ => ⟨hL1, by
              refine Nat.le_of_not_lt (fun hlt => hz ?_)
              unfold d10
              rw [Nat.div_eq_of_lt hlt]⟩⟩)
            clear hx0 hz hV
            go_wp2
            go_ret
            exact ⟨t, rfl, HF.out, KW.out⟩
end Go.Proofs.YtolkchkedieppaaGreat
