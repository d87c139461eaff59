/- Rats in a row, as read; small laws. -/
import Derived.Test.YtolkchkedieppaaGreatZRat5
import Derived.Test.YtolkchkedieppaaGreatZShelf
import Derived.Laws.CopyRow
import Derived.Laws.CopyOwn
set_option linter.unusedVariables false
set_option linter.unusedSimpArgs false
namespace Go.Proofs.YtolkchkedieppaaGreat
open Go.RowKit
attribute [local go_sem ↓] Go.wp_at_zero Go.wp_at_succ
theorem bel1 {w w' : World} {B : Nat} {b o : Nat} {v : Value} (hb : Below B w w') (h : w.cell? ⟨b, o, none⟩ = some v) (hB : b < B) : w'.cell? ⟨b, o, none⟩ = some v := (hb.cell (p := ⟨b, o, none⟩) hB).trans h
theorem rats_s : Tryz.prog.underlying 107 = some (.slice (Tryz.prog.elem 107)) := by kernel_rfl
theorem rats_z (W : World) : (sizeOf (Tryz.prog.elem 107)).run Tryz.prog W = .ok 4 W := by kernel_rfl
theorem ixR (b o n c i : Nat) (hi : i < n) (W : World) :
    (Instr.indexAt 107 (.slice (some ⟨b, o, none⟩) n c) (.int .i64 (i : Int))).run Tryz.prog W = .ok (.pointer (some ⟨b, o + i * 4, none⟩)) W := by
  rw [run_indexAt_slice W _ _ _ _ _ _ rats_s, if_pos ⟨by omega, by omega⟩, rats_z]
  simp only [Result.andThen, Int.toNat_natCast]
  congr 3
  unfold Addr.add
  split
  · rename_i h; simp [show i = 0 by omega]
  · rfl
/-- n Rats in a row -/
def IsRats (w : World) (pb po n : Nat) (q : Nat → Rat) (K : Nat) : Prop :=
  ∀ j, j < n → ∃ s a m c a2 m2 c2, Rd4 w pb (po + j * 4) (.bool s) (.slice a m c) (.bool false) (.slice a2 m2 c2) ∧ RatIs w (.agg #[.bool s, .slice a m c, .bool false, .slice a2 m2 c2]) (q j) K
theorem IsRats.mono {w w' : World} {pb po n K B : Nat} {q : Nat → Rat} (h : IsRats w pb po n q K) (hb : Below B w w') (hB : w.heap.size ≤ B) : IsRats w' pb po n q K := fun j hj => by
  obtain ⟨s, a, m, c, a2, m2, c2, h1, h2⟩ := h j hj
  exact ⟨s, a, m, c, a2, m2, c2, h1.below hb (Nat.lt_of_lt_of_le h1.lt hB), h2.mono hb hB⟩
theorem infoR : (Tryz.prog.info? 115).map (fun i => (i.zero, i.size, i.bytes)) = some (some (.agg #[.bool false, .slice none 0 0, .bool false, .slice none 0 0]), 4, 64) := by kernel_rfl
theorem infoRs : (Tryz.prog.info? 107).map (fun i => (i.zero, i.size, i.bytes)) = some (some (.slice none 0 0), 1, 24) := by kernel_rfl
theorem mul1n (n : Nat) (hn : n ≤ 24) (W : World) : Calls Tryz.prog 139 #[.int .u64 1, .int .u64 (n : Nat)] W fun e w' => e = .returned (.tuple #[.int .u64 0, .int .u64 (n : Nat)]) ∧ W = w' := by
  have h := Tryz.bits_Mul 1 n (by omega) (by omega) W
  refine Calls.mono (show Calls Tryz.prog 139 #[.int .u64 1, .int .u64 (n : Nat)] W _ from h) ?_
  rintro e w' ⟨rfl, rfl⟩
  refine ⟨?_, rfl⟩
  rw [Nat.one_mul, Nat.div_eq_of_lt (by omega), Nat.mod_eq_of_lt (by omega)]
  rfl
end Go.Proofs.YtolkchkedieppaaGreat

/- A row of Rats that a call made itself: stores into it. -/
namespace Go.Proofs.YtolkchkedieppaaGreat
open Go.RowKit
/-- four cells from offset o on, stored anew -/
abbrev st4 (w : World) (g o : Nat) (u0 u1 u2 u3 : Value) : World :=
  (((w.setCell ⟨g, o, none⟩ u0).setCell ⟨g, o + 1, none⟩ u1).setCell ⟨g, o + 2, none⟩ u2).setCell ⟨g, o + 3, none⟩ u3
theorem size_st4 (w : World) (g o : Nat) (u0 u1 u2 u3 : Value) : (st4 w g o u0 u1 u2 u3).heap.size = w.heap.size := by simp [st4, World.setCell]
theorem frozen_st4 (w : World) (g o : Nat) (u0 u1 u2 u3 : Value) (a : Addr) : (st4 w g o u0 u1 u2 u3).frozen? a = w.frozen? a := by simp only [st4, World.frozen?_setCell]
theorem Rd4.anew {w : World} {g o : Nat} {x y z u : Value} (h : Rd4 w g o x y z u) (u0 u1 u2 u3 : Value) : Rd4 (st4 w g o u0 u1 u2 u3) g o u0 u1 u2 u3 :=
  ⟨off_set (by omega) (off_set (by omega) (off_set (by omega) (self_set h.c0))),
   off_set (by omega) (off_set (by omega) (self_set (off_set (by omega) h.c1))),
   off_set (by omega) (self_set (off_set (by omega) (off_set (by omega) h.c2))),
   self_set (off_set (by omega) (off_set (by omega) (off_set (by omega) h.c3))), by rw [size_st4]; exact h.lt⟩
theorem off4 {w : World} {g o o' : Nat} {v : Value} (u0 u1 u2 u3 : Value) (h0 : o' < o ∨ o + 4 ≤ o') (h : w.cell? ⟨g, o', none⟩ = some v) : (st4 w g o u0 u1 u2 u3).cell? ⟨g, o', none⟩ = some v :=
  off_set (by omega) (off_set (by omega) (off_set (by omega) (off_set (by omega) h)))
theorem Rd4.off {w : World} {g o o' : Nat} {x y z u : Value} (h : Rd4 w g o' x y z u) (u0 u1 u2 u3 : Value) (h0 : o' + 4 ≤ o ∨ o + 4 ≤ o') : Rd4 (st4 w g o u0 u1 u2 u3) g o' x y z u :=
  ⟨off4 _ _ _ _ (by omega) h.c0, off4 _ _ _ _ (by omega) h.c1, off4 _ _ _ _ (by omega) h.c2, off4 _ _ _ _ (by omega) h.c3, by rw [size_st4]; exact h.lt⟩
theorem far4 {w : World} {g o b o' : Nat} (u0 u1 u2 u3 : Value) (hne : g ≠ b) : (st4 w g o u0 u1 u2 u3).cell? ⟨b, o', none⟩ = w.cell? ⟨b, o', none⟩ := by
  simp only [st4]; rw [far_set _ _ _ _ _ _ hne, far_set _ _ _ _ _ _ hne, far_set _ _ _ _ _ _ hne, far_set _ _ _ _ _ _ hne]
theorem Rd4.far {w : World} {g o b o' : Nat} {x y z u : Value} (h : Rd4 w b o' x y z u) (u0 u1 u2 u3 : Value) (hne : g ≠ b) : Rd4 (st4 w g o u0 u1 u2 u3) b o' x y z u :=
  ⟨(far4 _ _ _ _ hne).trans h.c0, (far4 _ _ _ _ hne).trans h.c1, (far4 _ _ _ _ hne).trans h.c2, (far4 _ _ _ _ hne).trans h.c3, by rw [size_st4]; exact h.lt⟩
theorem Mag.at4 {w : World} {v : Value} {x g o : Nat} (h : Mag w v x) (u0 u1 u2 u3 : Value) {v0 v1 v2 v3 : Value} (hr : Rd4 w g o v0 v1 v2 v3) (n0 : NoInt v0) (n1 : NoInt v1) (n2 : NoInt v2) (n3 : NoInt v3) : Mag (st4 w g o u0 u1 u2 u3) v x := by
  refine (((h.store1 u0 hr.c0 n0).store1 u1 ?_ n1).store1 u2 ?_ n2).store1 u3 ?_ n3
  · exact off_set (by omega) hr.c1
  · exact off_set (by omega) (off_set (by omega) hr.c2)
  · exact off_set (by omega) (off_set (by omega) (off_set (by omega) hr.c3))
theorem RatIs.at4 {w : World} {v : Value} {q : Rat} {m g o : Nat} {s t : Bool} {a a2 : Option Addr} {n c n2 c2 : Nat} (h : RatIs w v q m) (u0 u1 u2 u3 : Value) (hr : Rd4 w g o (.bool s) (.slice a n c) (.bool t) (.slice a2 n2 c2)) :
    RatIs (st4 w g o u0 u1 u2 u3) v q m := by
  obtain ⟨u, d, rfl, m1, m2, m3⟩ := h
  exact ⟨u, d, rfl, m1.at4 u0 u1 u2 u3 hr (noInt_bool _) (noInt_slice _ _ _) (noInt_bool _) (noInt_slice _ _ _), m2.at4 u0 u1 u2 u3 hr (noInt_bool _) (noInt_slice _ _ _) (noInt_bool _) (noInt_slice _ _ _), m3⟩
/-- n Rats in a block of the call's own, those of P with their values; K bounds their limbs -/
structure RowP (w : World) (g n : Nat) (P : Nat → Prop) (q : Nat → Rat) (K : Nat) : Prop where
  cell : ∀ j, j < n → ∃ s a m c a2 m2 c2, Rd4 w g (j * 4) (.bool s) (.slice a m c) (.bool false) (.slice a2 m2 c2) ∧ (P j → RatIs w (.agg #[.bool s, .slice a m c, .bool false, .slice a2 m2 c2]) (q j) K)
  f : ∀ o, w.frozen? ⟨g, o, none⟩ = false
  lt : g < w.heap.size
/-- all of them -/
abbrev RatRow (w : World) (g n : Nat) (q : Nat → Rat) (K : Nat) : Prop := RowP w g n (fun _ => True) q K
variable {w w' : World} {g n K B i o : Nat} {P : Nat → Prop} {q : Nat → Rat}
theorem RowP.below (h : RowP w g n P q K) (hb : Below B w w') (hB : w.heap.size ≤ B) : RowP w' g n P q K :=
  ⟨fun j hj => by
    obtain ⟨s, a, m, c, a2, m2, c2, h1, h2⟩ := h.cell j hj
    exact ⟨s, a, m, c, a2, m2, c2, h1.below hb (Nat.lt_of_lt_of_le h1.lt hB), fun p => (h2 p).mono hb hB⟩,
   fun o => (hb.frozen (p := ⟨g, o, none⟩) (Nat.lt_of_lt_of_le h.lt hB)).trans (h.f o), Nat.lt_of_lt_of_le h.lt hb.size⟩
theorem RowP.alloc (h : RowP w g n P q K) (o : Obj) : RowP (w.alloc o) g n P q K := h.below ((Below.refl w.heap.size w).alloc (Nat.le_refl _) o) (Nat.le_refl _)
/-- q with the element i turned -/
def updQ (q : Nat → Rat) (i : Nat) (x : Rat) : Nat → Rat := fun j => if j = i then x else q j
theorem RowP.set (h : RowP w g n P q K) (hi : i < n) (ho : o = i * 4) {s : Bool} {a a2 : Option Addr} {m c m2 c2 : Nat} {x : Rat}
    (hx : RatIs w (.agg #[.bool s, .slice a m c, .bool false, .slice a2 m2 c2]) x K) :
    RowP (st4 w g o (.bool s) (.slice a m c) (.bool false) (.slice a2 m2 c2)) g n (fun j => j = i ∨ P j) (updQ q i x) K := by
  subst ho
  obtain ⟨s', a', m', c', a2', m2', c2', hr, hv⟩ := h.cell i hi
  refine ⟨fun j hj => ?_, fun o => by rw [frozen_st4]; exact h.f o, by rw [size_st4]; exact h.lt⟩
  by_cases e : j = i
  · subst e
    exact ⟨s, a, m, c, a2, m2, c2, hr.anew _ _ _ _, fun _ => by rw [updQ, if_pos rfl]; exact hx.at4 _ _ _ _ hr⟩
  · obtain ⟨s1, a1, m1, c1, b1, m3, c3, hr1, hv1⟩ := h.cell j hj
    exact ⟨s1, a1, m1, c1, b1, m3, c3, hr1.off _ _ _ _ (by omega), fun p => by rw [updQ, if_neg e]; exact (hv1 (p.resolve_left e)).at4 _ _ _ _ hr⟩
theorem RowP.le {K' : Nat} (h : RowP w g n P q K) (hk : K ≤ K') : RowP w g n P q K' :=
  ⟨fun j hj => by obtain ⟨s, a, m, c, a2, m2, c2, hr, hv⟩ := h.cell j hj; exact ⟨s, a, m, c, a2, m2, c2, hr, fun p => (hv p).le hk⟩, h.f, h.lt⟩
theorem RowP.congr {P' : Nat → Prop} {q' : Nat → Rat} (h : RowP w g n P q K) (hP : ∀ j, j < n → P' j → P j ∧ q j = q' j) : RowP w g n P' q' K :=
  ⟨fun j hj => by obtain ⟨s, a, m, c, a2, m2, c2, hr, hv⟩ := h.cell j hj; exact ⟨s, a, m, c, a2, m2, c2, hr, fun p => by rw [← (hP j hj p).2]; exact hv (hP j hj p).1⟩, h.f, h.lt⟩
theorem RowP.rats (h : RatRow w g n q K) : IsRats w g 0 n q K := fun j hj => by
  obtain ⟨s, a, m, c, a2, m2, c2, hr, hv⟩ := h.cell j hj
  exact ⟨s, a, m, c, a2, m2, c2, by rw [Nat.zero_add]; exact hr, hv trivial⟩
theorem below_st4 {w0 : World} {b : Nat} (h : Below B w0 w) (hB : B ≤ b) (u0 u1 u2 u3 : Value) : Below B w0 (st4 w b o u0 u1 u2 u3) :=
  (((h.setCell hB _).setCell hB _).setCell hB _).setCell hB _
end Go.Proofs.YtolkchkedieppaaGreat

/- Rows of Rats: indices, stores, copies. -/
namespace Go.Proofs.YtolkchkedieppaaGreat
open Go.RowKit
attribute [local go_sem ↓] Go.wp_at_zero Go.wp_at_succ
theorem lmat_s : Tryz.prog.underlying 155 = some (.slice (Tryz.prog.elem 155)) := by kernel_rfl
theorem lmat_z (W : World) : (sizeOf (Tryz.prog.elem 155)).run Tryz.prog W = .ok 1 W := by kernel_rfl
theorem ixL (b o n c i : Nat) (hi : i < n) (W : World) :
    (Instr.indexAt 155 (.slice (some ⟨b, o, none⟩) n c) (.int .i64 (i : Int))).run Tryz.prog W = .ok (.pointer (some ⟨b, o + i, none⟩)) W :=
  run_indexAt_opt 155 lmat_s lmat_z _ b o n c (fun _ => rfl) .i64 i (by omega) (by omega) W
theorem rowIx (b n c i : Nat) (hi : i < n) (W : World) :
    (Instr.indexAt 107 (.slice (some ⟨b, 0, none⟩) n c) (.int .i64 (i : Int))).run Tryz.prog W = .ok (.pointer (some ⟨b, i * 4, none⟩)) W := by
  rw [ixR b 0 n c i hi W, Nat.zero_add]
theorem RatIs.store1 {w : World} {v : Value} {q : Rat} {m b o : Nat} (h : RatIs w v q m) (u : Value) {v0 : Value} (hp : w.cell? ⟨b, o, none⟩ = some v0) (hn : NoInt v0) : RatIs (w.setCell ⟨b, o, none⟩ u) v q m := by
  obtain ⟨u', d, rfl, m1, m2, m3⟩ := h
  exact ⟨u', d, rfl, m1.store1 u hp hn, m2.store1 u hp hn, m3⟩
/-- a store into another block, over what is no number -/
theorem RowP.storeFar {w : World} {g n K b o : Nat} {P : Nat → Prop} {q : Nat → Rat} (h : RowP w g n P q K) (u : Value) {v0 : Value} (hp : w.cell? ⟨b, o, none⟩ = some v0) (hn : NoInt v0) (hne : b ≠ g) : RowP (w.setCell ⟨b, o, none⟩ u) g n P q K :=
  ⟨fun j hj => by
    obtain ⟨s, a, m, c, a2, m2, c2, hr, hv⟩ := h.cell j hj
    exact ⟨s, a, m, c, a2, m2, c2, ⟨(far_set _ _ _ _ _ _ hne).trans hr.c0, (far_set _ _ _ _ _ _ hne).trans hr.c1, (far_set _ _ _ _ _ _ hne).trans hr.c2, (far_set _ _ _ _ _ _ hne).trans hr.c3, by simp only [World.setCell, Array.size_modify]; exact hr.lt⟩, fun p => (hv p).store1 u hp hn⟩,
   fun o' => by rw [World.frozen?_setCell]; exact h.f o', by simp only [World.setCell, Array.size_modify]; exact h.lt⟩
theorem run_copy_rowS {P : Program} (w : World) (dT sT ty elem : TypeId) (g o dLen dCap : Nat) (a : Addr) (sLen sCap : Nat) (cur : Array Value) (t : TypeId) (cs : List Value) (s n : Nat)
    (hu : P.underlying dT = some (.slice elem)) (hs : (P.info? elem).map (·.size) = some s)
    (hg : w.heap[g]? = some (.cells cur t (0, 0))) (hn : n = Nat.min sLen dLen) (hcs : cs.length = n * s)
    (hsrc : ∀ j v, cs[j]? = some v → w.cell? (a.add j) = some v) (hfit : o + cs.length ≤ cur.size) (h1 : ∀ v ∈ cs, v.oneCell' = true) :
    (Builtin.copy_ #[dT, sT] ty #[.slice (some ⟨g, o, none⟩) dLen dCap, .slice (some a) sLen sCap]).run P w =
      .ok (goInt n) (w.setRow g (cur.toList.take o ++ cs ++ cur.toList.drop (o + cs.length)).toArray) := by
  have hl := run_loadCells_list (P := P) w a cs hsrc
  have hst := run_storeCells_at P g o t cs 0 cur w hg (by simpa using hfit) h1
  rw [hcs] at hl
  cases hq : P.info? elem with
  | none => simp [hq] at hs
  | some i =>
    have hi : i.size = s := by simpa [hq] using hs
    simp [Builtin.copy_, run_underlying hu, Builtin.lenOf, Builtin.firstCells, sizeOf, typeInfo, hq, hi, ← hn, hl, hst]
end Go.Proofs.YtolkchkedieppaaGreat

/- make of Rats, of rows; slices.Repeat of one Rat. -/
namespace Go.Proofs.YtolkchkedieppaaGreat
open Go.RowKit
attribute [local go_sem ↓] Go.wp_at_zero Go.wp_at_succ
/-- the cells of the zero Rat -/
abbrev zR : Array Value := #[.bool false, .slice none 0 0, .bool false, .slice none 0 0]
theorem mkRn (n : Nat) (hn : n ≤ 1000) (W : World) : (Instr.makeSlice 107 (.int .i64 (n : Nat)) (.int .i64 (n : Nat))).run Tryz.prog W = .ok (.slice (some ⟨W.heap.size, 0, none⟩) n n) (W.alloc (.cells (madeCells zR (n * 4)) 115)) := by
  obtain ⟨i0, hi, hz0, hz1, hz2⟩ := info_parts infoR
  have h := run_make (P := Tryz.prog) W 107 115 i0 _ Tryz.underlying107 hi hz0 .i64 .i64 n n (by omega) (by omega) (by rw [hz2]; omega) (by omega)
  have e : (Value.agg #[.bool false, .slice none 0 0, .bool false, .slice none 0 0]).cells = zR := by kernel_rfl
  rw [h, hz1, e, Int.toNat_natCast]
theorem mkMn (n : Nat) (hn : n ≤ 1000) (W : World) : (Instr.makeSlice 155 (.int .i64 (n : Nat)) (.int .i64 (n : Nat))).run Tryz.prog W = .ok (.slice (some ⟨W.heap.size, 0, none⟩) n n) (W.alloc (.cells (madeCells #[.slice none 0 0] n) 107)) :=
  run_make_row' (P := Tryz.prog) 155 107 (.slice none 0 0) 24 Tryz.underlying155 infoRs rfl .i64 .i64 n (by omega) (by omega) W
/-- four cells, over and over -/
def pat4 (x0 x1 x2 x3 : Value) (i : Nat) : Value := match i % 4 with | 0 => x0 | 1 => x1 | 2 => x2 | _ => x3
def zero4 : Nat → Value := pat4 (.bool false) (.slice none 0 0) (.bool false) (.slice none 0 0)
theorem made_zero4 (n i : Nat) (h : i < n) : (madeCells zR n)[i]? = some (zero4 i) := by
  have e : (madeCells zR n)[i]? = some (zR[i % 4]!) := by
    unfold madeCells
    rw [Array.getElem?_map, Array.getElem?_range, if_pos h]
    rfl
  rw [e]
  unfold zero4 pat4
  have h4 : i % 4 < 4 := Nat.mod_lt _ (by omega)
  rcases (by omega : i % 4 = 0 ∨ i % 4 = 1 ∨ i % 4 = 2 ∨ i % 4 = 3) with h | h | h | h <;> rw [h] <;> rfl
/-- the first k Rats stored, the others zero -/
def repR (p : Nat → Value) (k : Nat) (i : Nat) : Value := if i < k * 4 then p i else zero4 i
theorem row_made (w : World) (n : Nat) (p : Nat → Value) : (w.alloc (.cells (madeCells zR (n * 4)) 115)).rowIs w.heap.size 115 (n * 4) (repR p 0) :=
  ⟨madeCells zR (n * 4), by unfold World.alloc; simp, size_madeCells _ _, fun i hi => by rw [made_zero4 _ _ hi]; unfold repR; rw [if_neg (by omega)]⟩
/-- a row of zero Rats, as one that is written -/
theorem RowP.made (w : World) (n : Nat) (q : Nat → Rat) (K : Nat) : RowP (w.alloc (.cells (madeCells zR (n * 4)) 115)) w.heap.size n (fun _ => False) q K := by
  have h := row_made w n zero4
  have e : ∀ j r, r < 4 → j < n → repR zero4 0 (j * 4 + r) = pat4 (.bool false) (.slice none 0 0) (.bool false) (.slice none 0 0) r := fun j r hr hj => by
    unfold repR; rw [if_neg (by omega)]; unfold zero4 pat4; rw [show (j * 4 + r) % 4 = r % 4 by omega]
  refine ⟨fun j hj => ⟨false, none, 0, 0, none, 0, 0, ⟨?_, ?_, ?_, ?_, h.lt⟩, fun p => p.elim⟩, fun o => h.frozen o, h.lt⟩
  · rw [h.cell (i := j * 4) (by omega)]; congr 1; exact e j 0 (by omega) hj
  · rw [h.cell (i := j * 4 + 1) (by omega)]; congr 1; exact e j 1 (by omega) hj
  · rw [h.cell (i := j * 4 + 2) (by omega)]; congr 1; exact e j 2 (by omega) hj
  · rw [h.cell (i := j * 4 + 3) (by omega)]; congr 1; exact e j 3 (by omega) hj
theorem pat4_one (x0 x1 x2 x3 : Value) (h0 : x0.oneCell' = true) (h1 : x1.oneCell' = true) (h2 : x2.oneCell' = true) (h3 : x3.oneCell' = true) (i : Nat) : (pat4 x0 x1 x2 x3 i).oneCell' = true := by
  unfold pat4; split <;> assumption
/-- the first m cells of a pattern -/
def patL (p : Nat → Value) (m : Nat) : List Value := (List.range m).map p
theorem patL_get (p : Nat → Value) (m i : Nat) (h : i < m) : (patL p m)[i]? = some (p i) := by simp [patL, h]
theorem patL_len (p : Nat → Value) (m : Nat) : (patL p m).length = m := by simp [patL]
theorem copyR_in (w : World) (b n k B : Nat) (p : Nat → Value) (hp : ∀ i j, p (i + j * 4) = p i) (hp1 : ∀ i, (p i).oneCell' = true) (hk : 0 < k) (hkn : k < n) (hB : B ≤ b) (h : w.rowIs b 115 (n * 4) (repR p k)) :
    ∃ w', (Builtin.copy_ #[107, 107] 3 #[.slice (some ⟨b, k * 4, none⟩) (n - k) (n - k), .slice (some ⟨b, 0, none⟩) k n]).run Tryz.prog w = .ok (.int .i64 (Nat.min k (n - k) : Nat)) w' ∧
      w'.rowIs b 115 (n * 4) (repR p (k + Nat.min k (n - k))) ∧ w'.heap.size = w.heap.size ∧ ∀ w0, Below B w0 w → Below B w0 w' := by
  obtain ⟨c, hb, hn, hc⟩ := h
  have hm : Nat.min k (n - k) ≤ n - k := Nat.min_le_right _ _
  have hm2 : Nat.min k (n - k) ≤ k := Nat.min_le_left _ _
  generalize hmm : Nat.min k (n - k) = m at hm hm2 ⊢
  have e := run_copy_rowS (P := Tryz.prog) w 107 107 3 115 b (k * 4) (n - k) (n - k) ⟨b, 0, none⟩ k n c 115 (patL p (m * 4)) 4 m Tryz.underlying107 (by kernel_rfl) hb hmm.symm (patL_len _ _)
    (fun j v hj => by
      have hjm : j < m * 4 := by have := (List.getElem?_eq_some_iff.1 hj).1; rw [patL_len] at this; exact this
      rw [add_at, Nat.zero_add]
      rw [patL_get _ _ _ hjm] at hj
      have hcell : w.cell? ⟨b, j, none⟩ = some (repR p k j) := World.rowIs.cell ⟨c, hb, hn, hc⟩ (by omega)
      rw [hcell, ← hj]; unfold repR; rw [if_pos (by omega)])
    (by rw [patL_len]; omega) (fun v hv => by simp [patL] at hv; obtain ⟨a, _, rfl⟩ := hv; exact hp1 a)
  refine ⟨_, e, ⟨_, setRow_heap w b c _ _ _ hb, ?_, fun i hi => ?_⟩, size_setRow _ _ _, fun w0 hw => below_setRow hw hB _⟩
  · simp [patL_len]; omega
  · have hci := hc i hi
    simp only [List.getElem?_toArray, patL_len]
    by_cases h1 : i < k * 4
    · rw [List.append_assoc, List.getElem?_append_left (by simp; omega), List.getElem?_take_of_lt h1, Array.getElem?_toList, hci]
      unfold repR; rw [if_pos h1, if_pos (by omega)]
    · by_cases h2 : i < (k + m) * 4
      · have hl : (List.take (k * 4) c.toList).length = k * 4 := by simp; omega
        rw [List.append_assoc, List.getElem?_append_right (by omega), List.getElem?_append_left (by rw [patL_len]; omega), hl, patL_get _ _ _ (by omega)]
        unfold repR; rw [if_pos h2]
        have := hp (i - k * 4) k
        rw [show i - k * 4 + k * 4 = i by omega] at this
        rw [this]
      · have hl : (List.take (k * 4) c.toList ++ patL p (m * 4)).length = k * 4 + m * 4 := by simp [patL_len]; omega
        rw [List.getElem?_append_right (by omega), List.getElem?_drop, Array.getElem?_toList, hl, show k * 4 + m * 4 + (i - (k * 4 + m * 4)) = i by omega, hci]
        unfold repR; rw [if_neg h1, if_neg h2]
theorem copyR_first (w : World) (b n c : Nat) (p : Nat → Value) (hp1 : ∀ i, (p i).oneCell' = true) (hn : 0 < n) (hb : ∀ i, i < 4 → w.cell? ⟨b, i, none⟩ = some (p i)) :
    ∃ w', (Builtin.copy_ #[107, 107] 3 #[.slice (some ⟨w.heap.size, 0, none⟩) n n, .slice (some ⟨b, 0, none⟩) 1 c]).run Tryz.prog (w.alloc (.cells (madeCells zR (n * 4)) 115)) = .ok (.int .i64 1) w' ∧
      w'.rowIs w.heap.size 115 (n * 4) (repR p 1) ∧ w'.heap.size = w.heap.size + 1 ∧ Below w.heap.size w w' := by
  have hz : (madeCells zR (n * 4)).size = n * 4 := size_madeCells _ _
  have hnew : (w.alloc (.cells (madeCells zR (n * 4)) 115)).heap[w.heap.size]? = some (.cells (madeCells zR (n * 4)) 115 (0, 0)) := by unfold World.alloc; simp
  have e := run_copy_rowS (P := Tryz.prog) (w.alloc (.cells (madeCells zR (n * 4)) 115)) 107 107 3 115 w.heap.size 0 n n ⟨b, 0, none⟩ 1 c (madeCells zR (n * 4)) 115
    (patL p 4) 4 1 Tryz.underlying107 (by kernel_rfl) hnew (by show 1 = Nat.min 1 n; exact (Nat.min_eq_left hn).symm) rfl (fun j v hj => by
      have hj4 : j < 4 := by have := (List.getElem?_eq_some_iff.1 hj).1; rw [patL_len] at this; exact this
      rw [patL_get _ _ _ hj4] at hj
      rw [add_at, Nat.zero_add, ← hj]
      exact (World.cell?_alloc_some w _ _ (by show (w.cell? ⟨b, j, none⟩).isSome = true; rw [hb j hj4]; rfl)).trans (hb j hj4)) (by rw [hz, patL_len]; omega) (fun v hv => by simp [patL] at hv; obtain ⟨a, _, rfl⟩ := hv; exact hp1 a)
  refine ⟨_, e, ⟨_, setRow_heap _ _ _ _ _ _ hnew, ?_, fun i hi => ?_⟩, by rw [size_setRow]; simp, below_setRow ((Below.refl w.heap.size w).alloc (Nat.le_refl _) _) (Nat.le_refl _) _⟩
  · simp [patL_len, hz]; omega
  · have hm := made_zero4 (n * 4) i hi
    unfold repR
    simp only [List.getElem?_toArray, List.take_zero, List.nil_append]
    by_cases h1 : i < 1 * 4
    · rw [if_pos h1, List.getElem?_append_left (by rw [patL_len]; omega), patL_get _ _ _ (by omega)]
    · rw [if_neg h1, List.getElem?_append_right (by rw [patL_len]; omega), List.getElem?_drop, Array.getElem?_toList, patL_len, show 0 + 4 + (i - 4) = i by omega]
      exact hm
set_option maxHeartbeats 2000000 in
set_option maxRecDepth 100000 in
theorem repeatR_any (b c n : Nat) (p : Nat → Value) (hp : ∀ i j, p (i + j * 4) = p i) (hp1 : ∀ i, (p i).oneCell' = true) (w : World) (h0 : 0 < n) (hn : n ≤ 24) (hb : ∀ i, i < 4 → w.cell? ⟨b, i, none⟩ = some (p i)) :
    Calls Tryz.prog 113 #[.slice (some ⟨b, 0, none⟩) 1 c, .int .i64 (n : Nat)] w fun e w' => e = .returned (.slice (some ⟨w.heap.size, 0, none⟩) n n) ∧ w'.rowIs w.heap.size 115 (n * 4) (repR p n) ∧ w'.heap.size = w.heap.size + 1 ∧ Below w.heap.size w w' := by
  have hmk := mkRn n (by omega)
  have g0 : (0:Int) < (n:Int) := by omega
  have hw1 : IntKind.u64.wrap (n : Int) = (n : Int) := by rw [IntKind.wrap_u64]; omega
  have hw2 : IntKind.i64.wrap (n : Int) = (n : Int) := by rw [IntKind.wrap_i64]; omega
  have hlim : ¬ (n : Int) > 9223372036854775807 := by omega
  obtain ⟨wC, hcp, HR, hsz, HB⟩ := copyR_first w b n c p hp1 h0 hb
  have HR := Lib.hid HR
  have HB := Lib.hid HB
  have HSZ := Lib.hid hsz
  have HP := Lib.hid hp
  have HP1 := Lib.hid hp1
  clear hsz hb hp hp1
  have hul := rats_z
  go_enter Tryz.func113, Tryz.ntmps113
  go_wp2_with (first
    | (go_at_call 139; (with_reducible refine (mul1n n hn _).mono ?_); rintro e w1 ⟨rfl, rfl⟩))
  go_loopw [8] (fun v8 wr => ∃ k : Nat, 0 < k ∧ k ≤ n ∧ v8 = .int .i64 (k : Nat) ∧ Hid (wr.rowIs w.heap.size 115 (n * 4) (repR p k)) ∧ Hid (wr.heap.size = w.heap.size + 1) ∧ Hid (Below w.heap.size w wr)) (fun v8 _ => n - (intOf v8).toNat)
  case atStart => exact ⟨1, by omega, by omega, rfl, HR, HSZ, HB⟩
  case round =>
    clear HR HSZ HB
    obtain ⟨k, k0, hk, rfl, HR, HSZ, HB⟩ := hrel
    by_cases h : k < n
    · obtain ⟨wD, hc2, HR2, hsz2, HB2⟩ := copyR_in wr.drew w.heap.size n k w.heap.size p HP.out HP1.out k0 h (Nat.le_refl _) HR.out
      have HR2 := Lib.hid HR2
      have HB2 := Lib.hid (HB2 _ HB.out.drew)
      have HSZ2 := Lib.hid hsz2
      clear hsz2
      have hm1 : Nat.min k (n - k) ≤ n - k := Nat.min_le_right _ _
      have hm0 : 0 < Nat.min k (n - k) := by show 0 < min k (n - k); omega
      generalize Nat.min k (n - k) = m at *
      have hwk : IntKind.i64.wrap ((k : Int) + (m : Int)) = ((k + m : Nat) : Int) := by rw [IntKind.wrap_i64]; omega
      have g1 : (0:Int) ≤ (k:Int) := Int.natCast_nonneg k
      have g2 : (k:Int) < (n:Int) := by omega
      have g3 : (k:Int) ≤ (n:Int) := by omega
      go_wp2
      go_region
      go_wp2
      go_roundw
      case rel => exact ⟨k + m, by omega, by omega, by go_num, HR2, Lib.hid (HSZ2.out.trans HSZ.out), HB2⟩
      case measure => simp [intOf]; omega
    · obtain rfl : k = n := by omega
      go_wp2
      go_ret
      exact ⟨rfl, HR.out, HSZ.out, HB.out⟩
/-- the same, said of Rats -/
theorem repeat_rat (b c n : Nat) (x : Rat) (K : Nat) (s : Bool) (a a2 : Option Addr) (m e m2 e2 : Nat) (w : World) (h0 : 0 < n) (hn : n ≤ 24) (h : Own4 w b (.bool s) (.slice a m e) (.bool false) (.slice a2 m2 e2)) (hv : RatIs w (.agg #[.bool s, .slice a m e, .bool false, .slice a2 m2 e2]) x K) :
    Calls Tryz.prog 113 #[.slice (some ⟨b, 0, none⟩) 1 c, .int .i64 (n : Nat)] w fun ex w' => ∃ g, ex = .returned (.slice (some ⟨g, 0, none⟩) n n) ∧ RatRow w' g n (fun _ => x) K ∧ w.heap.size ≤ g ∧ Below w.heap.size w w' := by
  refine (repeatR_any b c n (pat4 (.bool s) (.slice a m e) (.bool false) (.slice a2 m2 e2)) (fun i j => by unfold pat4; rw [show (i + j * 4) % 4 = i % 4 by omega]) (pat4_one _ _ _ _ rfl rfl rfl rfl) w h0 hn (fun i hi => ?_)).mono ?_
  · rcases (by omega : i = 0 ∨ i = 1 ∨ i = 2 ∨ i = 3) with rfl | rfl | rfl | rfl
    · exact h.c0
    · exact h.c1
    · exact h.c2
    · exact h.c3
  · rintro ex w' ⟨rfl, hr, hs, hb⟩
    have hv2 := hv.mono hb (Nat.le_refl _)
    have ee : ∀ j r, r < 4 → j < n → repR (pat4 (.bool s) (.slice a m e) (.bool false) (.slice a2 m2 e2)) n (j * 4 + r) = pat4 (.bool s) (.slice a m e) (.bool false) (.slice a2 m2 e2) r := fun j r hr hj => by
      unfold repR; rw [if_pos (by omega)]; unfold pat4; rw [show (j * 4 + r) % 4 = r % 4 by omega]
    refine ⟨_, rfl, ⟨fun j hj => ⟨s, a, m, e, a2, m2, e2, ⟨?_, ?_, ?_, ?_, hr.lt⟩, fun _ => hv2⟩, fun o => hr.frozen o, hr.lt⟩, Nat.le_refl _, hb⟩
    · rw [hr.cell (i := j * 4) (by omega)]; congr 1; exact ee j 0 (by omega) hj
    · rw [hr.cell (i := j * 4 + 1) (by omega)]; congr 1; exact ee j 1 (by omega) hj
    · rw [hr.cell (i := j * 4 + 2) (by omega)]; congr 1; exact ee j 2 (by omega) hj
    · rw [hr.cell (i := j * 4 + 3) (by omega)]; congr 1; exact ee j 3 (by omega) hj
end Go.Proofs.YtolkchkedieppaaGreat

/- Plain: sums of rational numbers, and shares that leave no closed set of firms. -/
namespace Go.Proofs.YtolkchkedieppaaGreat
def sumQ (f : Nat → Rat) : Nat → Rat
  | 0 => 0
  | n + 1 => sumQ f n + f n
theorem sumQ_congr {f g : Nat → Rat} : ∀ n, (∀ i, i < n → f i = g i) → sumQ f n = sumQ g n
  | 0, _ => rfl
  | n + 1, h => by simp only [sumQ]; rw [sumQ_congr n (fun i hi => h i (by omega)), h n (by omega)]
theorem sumQ_add (f g : Nat → Rat) : ∀ n, sumQ (fun i => f i + g i) n = sumQ f n + sumQ g n
  | 0 => by simp only [sumQ]; grind
  | n + 1 => by simp only [sumQ]; rw [sumQ_add f g n]; grind
theorem sumQ_mul (c : Rat) (f : Nat → Rat) : ∀ n, sumQ (fun i => c * f i) n = c * sumQ f n
  | 0 => by simp only [sumQ]; grind
  | n + 1 => by simp only [sumQ]; rw [sumQ_mul c f n]; grind
theorem sumQ_sub (f g : Nat → Rat) : ∀ n, sumQ (fun i => f i - g i) n = sumQ f n - sumQ g n
  | 0 => by simp only [sumQ]; grind
  | n + 1 => by simp only [sumQ]; rw [sumQ_sub f g n]; grind
theorem sumQ_zero : ∀ n, sumQ (fun _ => 0) n = 0
  | 0 => rfl
  | n + 1 => by simp only [sumQ]; rw [sumQ_zero n]; grind
theorem sumQ_eq_zero {f : Nat → Rat} (n : Nat) (h : ∀ i, i < n → f i = 0) : sumQ f n = 0 := (sumQ_congr n h).trans (sumQ_zero n)
theorem sumQ_le {f g : Nat → Rat} : ∀ n, (∀ i, i < n → f i ≤ g i) → sumQ f n ≤ sumQ g n
  | 0, _ => by simp only [sumQ]; grind
  | n + 1, h => by
    have h1 := sumQ_le n (fun i hi => h i (by omega))
    have h2 := h n (by omega)
    simp only [sumQ]; grind
theorem sumQ_nonneg {f : Nat → Rat} (n : Nat) (h : ∀ i, i < n → 0 ≤ f i) : 0 ≤ sumQ f n := by
  have := sumQ_le (f := fun _ => 0) (g := f) n h
  rwa [sumQ_zero] at this
theorem sumQ_le_eq {f g : Nat → Rat} : ∀ n, (∀ i, i < n → f i ≤ g i) → sumQ g n ≤ sumQ f n → ∀ i, i < n → f i = g i
  | 0, _, _ => fun i hi => by omega
  | n + 1, h, h2 => fun i hi => by
    have h1 := sumQ_le n (fun i hi => h i (by omega))
    have h3 := h n (by omega)
    simp only [sumQ] at h2
    by_cases e : i = n
    · subst e; grind
    · exact sumQ_le_eq n (fun i hi => h i (by omega)) (by grind) i (by omega)
theorem sumQ_swap (f : Nat → Nat → Rat) (m : Nat) : ∀ n, sumQ (fun i => sumQ (fun j => f i j) m) n = sumQ (fun j => sumQ (fun i => f i j) n) m
  | 0 => by simp only [sumQ]; rw [sumQ_zero]
  | n + 1 => by
    simp only [sumQ]
    rw [sumQ_swap f m n, sumQ_add]
theorem sumQ_one (f : Nat → Rat) (k : Nat) : ∀ n, k < n → (∀ i, i < n → i ≠ k → f i = 0) → sumQ f n = f k
  | 0, h, _ => by omega
  | n + 1, h, hz => by
    simp only [sumQ]
    by_cases e : k = n
    · subst e
      rw [sumQ_eq_zero k (fun i hi => hz i (by omega) (by omega))]; grind
    · rw [sumQ_one f k n (by omega) (fun i hi => hz i (by omega)), hz n (by omega) (by omega)]; grind
theorem sumQ_pos {f : Nat → Rat} (n k : Nat) (hk : k < n) (h : ∀ i, i < n → 0 ≤ f i) (hp : 0 < f k) : 0 < sumQ f n := by
  have h1 : sumQ (fun i => if i = k then f k else 0) n ≤ sumQ f n := sumQ_le n (fun i hi => by
    by_cases e : i = k
    · subst e; simp
    · simp [e]; exact h i hi)
  rw [sumQ_one _ k n hk (fun i _ hi => by simp [hi])] at h1
  simp at h1
  grind
/-- shares: what part of its payments firm j pays to firm i -/
structure Shr (n : Nat) (S : Nat → Nat → Rat) : Prop where
  pos : ∀ j i, 0 ≤ S j i
  one : ∀ j, j < n → sumQ (fun i => S j i) n ≤ 1
/-- no firms of F owe all that they owe to each other -/
def NoClosed (n : Nat) (S : Nat → Nat → Rat) (F : Nat → Prop) : Prop :=
  ∀ Z : Nat → Prop, (∀ i, Z i → i < n ∧ F i) → (∀ j, Z j → sumQ (fun i => S j i) n = 1 ∧ ∀ i, i < n → ¬ Z i → S j i = 0) → ∀ i, ¬ Z i
theorem kernel {n : Nat} {S : Nat → Nat → Rat} {F : Nat → Prop} (hS : Shr n S) (hF : NoClosed n S F) (u : Nat → Rat) (h0 : ∀ i, 0 ≤ u i) (hs : ∀ i, i < n → ¬ F i → u i = 0)
    (hle : ∀ i, i < n → F i → u i ≤ sumQ (fun j => u j * S j i) n) : ∀ i, i < n → u i = 0 := by
  have hr : ∀ i, i < n → u i ≤ sumQ (fun j => u j * S j i) n := fun i hi => by
    by_cases h : F i
    · exact hle i hi h
    · rw [hs i hi h]
      exact sumQ_nonneg n (fun j _ => Rat.mul_nonneg (h0 j) (hS.pos j i))
  have h1 : sumQ (fun i => sumQ (fun j => u j * S j i) n) n = sumQ (fun j => u j * sumQ (fun i => S j i) n) n := by
    rw [sumQ_swap (fun i j => u j * S j i)]
    exact sumQ_congr n (fun j _ => sumQ_mul _ _ _)
  have h2 : ∀ j, j < n → u j * sumQ (fun i => S j i) n ≤ u j := fun j hj => by
    have := Rat.mul_le_mul_of_nonneg_left (hS.one j hj) (h0 j)
    grind
  have h3 := sumQ_le n h2
  have h4 := sumQ_le n hr
  have h5 := sumQ_le_eq n hr (by grind)
  have h6 := sumQ_le_eq n h2 (by grind)
  have := hF (fun i => i < n ∧ u i ≠ 0) (fun i hi => ⟨hi.1, Classical.byContradiction (fun h => hi.2 (hs i hi.1 h))⟩) (fun j hj => by
    refine ⟨?_, fun i hi hn => ?_⟩
    · have := h6 j hj.1
      have e := hj.2
      grind
    · have hu : u i = 0 := Classical.byContradiction (fun h => hn ⟨hi, h⟩)
      have hz := h5 i hi
      rw [hu] at hz
      have hz2 := sumQ_le_eq (f := fun _ => 0) (g := fun j => u j * S j i) n (fun j _ => Rat.mul_nonneg (h0 j) (hS.pos j i)) (by rw [sumQ_zero, ← hz]; exact Rat.le_refl) j hj.1
      have e := hj.2
      grind)
  intro i hi
  exact Classical.byContradiction (fun h => this i ⟨hi, h⟩)
end Go.Proofs.YtolkchkedieppaaGreat
