/- The reference's numbers: the long division, plain. -/
import Derived.Test.YtgmopcncbpdniaaGreatQBig11
import Derived.OwnWalk
set_option linter.unusedVariables false
set_option linter.unusedSimpArgs false
namespace Go.Proofs.YtgmopcncbpdniaaGreat
open Go.RowKit

/-- the rest before and after a digit of the long division -/
theorem divD_step (x y i : Nat) (hy : 0 < y) :
    ((x / 10000 ^ (i + 1)) % y * 10000 + dg x i) / y = dg (x / y) i ∧ ((x / 10000 ^ (i + 1)) % y * 10000 + dg x i) % y = (x / 10000 ^ i) % y := by
  have h1 := div_stepD x i
  have hd := dg_lt x i
  obtain ⟨A, hA⟩ : ∃ A, A = x / 10000 ^ (i + 1) := ⟨_, rfl⟩
  obtain ⟨d, hdd⟩ : ∃ d, d = dg x i := ⟨_, rfl⟩
  rw [← hA, ← hdd] at h1 ⊢
  rw [← hdd] at hd
  have h2 : dg (x / y) i = (A * 10000 + d) / y % 10000 := by
    unfold dg
    rw [Nat.div_div_eq_div_mul, Nat.mul_comm, ← Nat.div_div_eq_div_mul, h1]
  have h3 := Nat.div_add_mod A y
  have h4 : A * 10000 + d = (A % y * 10000 + d) + y * (A / y * 10000) := by
    conv => lhs; rw [← h3]
    rw [Nat.add_mul, Nat.mul_assoc]; omega
  have hr := Nat.mod_lt A hy
  have hlt : (A % y * 10000 + d) / y < 10000 := by
    rw [Nat.div_lt_iff_lt_mul hy]
    have : (A % y + 1) * 10000 ≤ y * 10000 := Nat.mul_le_mul_right _ hr
    rw [Nat.mul_comm 10000 y]; omega
  refine ⟨?_, ?_⟩
  · rw [h2, h4, Nat.add_mul_div_left _ _ hy, Nat.add_mul_mod_self_right, Nat.mod_eq_of_lt hlt]
  · rw [h1, h4, Nat.add_mul_mod_self_left]

/-- the digits of the quotient from i up, zeros below -/
structure DivI (x y i : Nat) (qf : Nat → Nat) : Prop where
  hi : ∀ j, i ≤ j → qf j = dg (x / y) j
  lo : ∀ j, j < i → qf j = 0

theorem DivI.start (x y : Nat) (hy : 0 < y) : DivI x y (nd x) (fun _ => 0) :=
  ⟨fun j hj => (dg_far (x / y) j (Nat.le_trans (nd_mono (Nat.div_le_self _ _)) hj)).symm, fun _ _ => rfl⟩
theorem DivI.step {x y i : Nat} {qf : Nat → Nat} (h : DivI x y (i + 1) qf) {d : Nat} (hd : d = dg (x / y) i) : DivI x y i (setN qf i d) :=
  ⟨fun j hj => by
    by_cases e : j = i
    · rw [e, setN_self]; exact hd
    · rw [setN_ne _ _ e]; exact h.hi j (by omega),
   fun j hj => by rw [setN_ne _ _ (by omega)]; exact h.lo j (by omega)⟩
theorem DivI.lt {x y i : Nat} {qf : Nat → Nat} (h : DivI x y i qf) (j : Nat) : qf j < 10000 := by
  by_cases e : i ≤ j
  · rw [h.hi j e]; exact dg_lt _ _
  · rw [h.lo j (by omega)]; omega
theorem DivI.val {x y : Nat} {qf : Nat → Nat} (h : DivI x y 0 qf) : valD qf (nd x) = x / y := by
  rw [valD_congr (g := dg (x / y)) fun i _ => h.hi i (Nat.zero_le _)]
  exact valD_dg_le _ _ (nd_mono (Nat.div_le_self _ _))
/-- the rest with a digit put ahead -/
def consN (d : Nat) (f : Nat → Nat) : Nat → Nat
  | 0 => d
  | j + 1 => f j
theorem valD_cons (d : Nat) (f : Nat → Nat) : ∀ n, valD (consN d f) (n + 1) = d + 10000 * valD f n
  | 0 => by simp [valD, consN]
  | n + 1 => by
    rw [show valD (consN d f) (n + 1 + 1) = valD (consN d f) (n + 1) + consN d f (n + 1) * 10000 ^ (n + 1) from rfl, valD_cons d f n]
    show d + 10000 * valD f n + f n * 10000 ^ (n + 1) = d + 10000 * (valD f n + f n * 10000 ^ n)
    rw [Nat.pow_succ, Nat.mul_add, ← Nat.mul_assoc, Nat.mul_comm 10000 (f n * 10000 ^ n)]
    omega
theorem cons_lt {d : Nat} {f : Nat → Nat} (hd : d < 10000) (hf : ∀ j, f j < 10000) : ∀ j, consN d f j < 10000
  | 0 => hd
  | j + 1 => hf j
theorem ics_cons (d : Nat) (f : Nat → Nat) (n : Nat) : Value.int .i64 ((d : Nat) : Int) :: ics (dI f) n = ics (dI (consN d f)) (n + 1) := by
  unfold ics
  rw [List.range_succ_eq_map, List.map_cons, List.map_map]
  rfl
/-- the rest and the middle of the search -/
theorem search_done {y R l : Nat} (hy : 0 < y) (h1 : y * l ≤ R) (h2 : R < y * (l + 1)) : l = R / y ∧ R - y * l = R % y := by
  have e : l = R / y := by
    apply Nat.le_antisymm
    · rw [Nat.le_div_iff_mul_le hy, Nat.mul_comm]; exact h1
    · have : R / y < l + 1 := by rw [Nat.div_lt_iff_lt_mul hy, Nat.mul_comm]; exact h2
      omega
  refine ⟨e, ?_⟩
  have := Nat.div_add_mod R y
  rw [e]; omega

end Go.Proofs.YtgmopcncbpdniaaGreat

/- The reference's numbers: what a round of DivMod holds. -/
set_option linter.unusedVariables false
set_option linter.unusedSimpArgs false
namespace Go.Proofs.YtgmopcncbpdniaaGreat
open Go.RowKit

/-- a row of integers put behind a row of one's own, whether it has a place or not -/
theorem wpList_append_ints {P : Program} {w : World} {ops : Array Oper} {rest : List Oper} {o : Oper} {a : Act} {Q : Exit → Act → World → Prop} (hgd : o.guard = none) (s x : Operand) (t : TypeId)
    (ho : o.op = .call { callee := .builtin .append, args := #[s, x], argTypes := #[t, t] })
    (base : Nat) (e : TypeId) (i : TypeInfo) (ht : P.underlying t = some (.slice e)) (hi : P.info? e = some i) (hz : i.zero = some (.int .i64 0)) (hsize : i.size = 1) (hby : i.bytes = 8)
    (v : Value) (n : Nat) (xs : List Value) (hs : a.eval s = v) (hown : w.ownsRow base e 1 v n xs)
    (sa : Option Addr) (b o' c m : Nat) (f : Nat → Int) (hx : a.eval x = .slice sa m c) (hsl : IsSl w sa b o' c m (ic f))
    (h63 : n + m ≤ maxLen) (hbytes : (n + m) * 8 ≤ 140737488355328) (hbase : base ≤ w.heap.size)
    (h : ∀ v' w', w'.ownsRow base e 1 v' (n + m) (xs ++ ics f m) → w.grownBy w' v.ownBlock → wpList P ops Q rest (a.put o.dst v') w') : wpList P ops Q (o :: rest) a w := by
  rcases Nat.eq_zero_or_pos m with hm | hm
  · subst hm
    rcases sa with _ | ad
    · obtain rfl := hsl.nc rfl
      refine wpList_append_own_none hgd s x t ho base e i 1 ht hi v n xs hs hown hx ?_
      exact h v w (by simpa [ics] using hown) (World.grownBy.refl _ _)
    · exact wpList_append_own w hgd s x t ho base e i (.int .i64 0) 1 8 ht hi hz hsize hby rfl (by decide) v n xs hs hown ad 0 c [] hx rfl (fun j u h => by simp at h) (fun u h => by simp at h) h63 hbytes hbase (fun v' w' h1 h2 _ => h v' w' (by simpa [ics] using h1) h2)
  · obtain rfl := hsl.at_ hm
    exact wpList_append_own w hgd s x t ho base e i (.int .i64 0) 1 8 ht hi hz hsize hby rfl (by decide) v n xs hs hown ⟨b, o', none⟩ m c (ics f m) hx (by rw [ics_length]; omega) (news_of hsl m (Nat.le_refl _)) (ics_one f m) h63 hbytes hbase (fun v' w' h1 h2 _ => h v' w' h1 h2)

theorem ownsRow_lit {e : TypeId} {base : Nat} (w : World) (u : Value) (hb : base ≤ w.heap.size) : (w.alloc (.cells #[u] e)).ownsRow base e 1 (.slice (some ⟨w.heap.size, 0, none⟩) 1 1) 1 [u] :=
  ⟨by simp, .inr ⟨w.heap.size, 1, #[u], rfl, hb, heap_alloc_new w _, Nat.le_refl _, by unfold maxLen; omega, rfl, by simp⟩⟩

structure DivS (w0 w : World) (s t : Bool) (sx sy : Value) (N : Nat) (qf : Nat → Nat) : Prop where
  oa : Own2 w w0.heap.size (.bool s) sx
  ob : Own2 w (w0.heap.size + 1) (.bool t) sy
  o0 : Own2 w (w0.heap.size + 1 + 1) (.bool false) (.slice none 0 0)
  o1 : Own2 w (w0.heap.size + 1 + 1 + 1) (.bool false) (.slice none 0 0)
  row : w.rowIs (w0.heap.size + 1 + 1 + 1 + 1) 3 N (ic (dI qf))
  kw : Below w0.heap.size w0 w
theorem DivS.sz {w0 w : World} {s t : Bool} {sx sy : Value} {N : Nat} {qf : Nat → Nat} (h : DivS w0 w s t sx sy N qf) : w0.heap.size + 5 ≤ w.heap.size := h.row.lt
theorem DivS.below {w0 w w' : World} {s t : Bool} {sx sy : Value} {N : Nat} {qf : Nat → Nat} (h : DivS w0 w s t sx sy N qf) (hb : Below w.heap.size w w') : DivS w0 w' s t sx sy N qf :=
  ⟨h.oa.below hb h.oa.lt, h.ob.below hb h.ob.lt, h.o0.below hb h.o0.lt, h.o1.below hb h.o1.lt, rowIs_below h.row hb h.row.lt, h.kw.trans (hb.mono h.kw.size)⟩
theorem DivS.set {w0 w : World} {s t : Bool} {sx sy : Value} {N : Nat} {qf : Nat → Nat} (h : DivS w0 w s t sx sy N qf) (j d : Nat) : DivS w0 (w.setCell ⟨w0.heap.size + 1 + 1 + 1 + 1, j, none⟩ (.int .i64 ((d : Nat) : Int))) s t sx sy N (setN qf j d) :=
  ⟨h.oa.setCell _ _ _ (by omega), h.ob.setCell _ _ _ (by omega), h.o0.setCell _ _ _ (by omega), h.o1.setCell _ _ _ (by omega),
   (h.row.set j _).congr (fun i hi => by
    by_cases e : i = j
    · subst e; simp [ic, dI, setN, upd]
    · simp [ic, dI, setN, upd, e]), h.kw.setCell (by dsimp only; omega) _⟩
theorem Below.set_up {w0 w : World} {B b o : Nat} (h : Below B w0 w) (hb : B ≤ b) (u : Value) : Below B w0 (w.setCell ⟨b, o, none⟩ u) := h.setCell hb u
/-- digits kept by a store into another block -/
theorem Raw.keep {w : World} {u : Value} {n : Nat} {f : Nat → Nat} {B : Nat} (h : Raw w u n f) {w' : World} (hb : Below w.heap.size w w') : Raw w' u n f := h.mono hb (Nat.le_refl _)

/-- lean's answer lies above what the world held -/
theorem lean_far (u : Value) (s : Bool) (n : Nat) (f : Nat → Nat) (x : Nat) (w : World) (hu : Raw w u n f) (hf : ∀ i, i < n → f i < 10000) (hx : valD f n = x) (hn : n ≤ 1099511627776) :
    Calls Tryz.prog 78 #[.agg #[.bool s, u]] w fun e w' => ∃ a c, e = .returned (.agg #[.bool (s && decide (0 < x)), .slice a (nd x) c]) ∧ Dg w' (.slice a (nd x) c) x ∧ (∀ k, (Value.slice a (nd x) c).ownBlock = some k → w.heap.size ≤ k) ∧ Below w.heap.size w w' := by
  subst hx
  refine (lean_own u s n f w hu hf hn).mono ?_
  rintro e w' ⟨u', rfl, h1, h2, h3⟩
  obtain ⟨a, b, o, c, rfl, hs⟩ := h1
  exact ⟨a, c, rfl, ⟨a, b, o, c, rfl, hs⟩, h2, h3⟩
/-- a store below digits leaves them as they are -/
theorem Dg.store_far {w : World} {a : Option Addr} {n c x b B : Nat} (h : Dg w (.slice a n c) x) (hf : ∀ k, (Value.slice a n c).ownBlock = some k → B ≤ k) (hb : b < B) (o : Nat) (v : Value) : Dg (w.setCell ⟨b, o, none⟩ v) (.slice a n c) x := by
  obtain ⟨a', b', o', c', he, hs⟩ := h
  refine ⟨a', b', o', c', he, hs.cap, hs.at_, fun hn => by simp only [World.setCell, Array.size_modify]; exact hs.lt hn, fun i hi => ?_, hs.nc⟩
  have e1 := hs.at_ (by omega)
  injection he with e2 e3 e4
  subst e1
  have := hf b' (by rw [e2]; rfl)
  exact (far_set w b o b' _ v (by omega)).trans (hs.cell i hi)

end Go.Proofs.YtgmopcncbpdniaaGreat
