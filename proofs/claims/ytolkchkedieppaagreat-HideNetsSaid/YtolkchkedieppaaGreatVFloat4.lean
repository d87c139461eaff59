/- A region that draws its order, where an extract may run behind a store that does not wait for it: it may be taken ahead. -/
import Derived.Test.YtolkchkedieppaaGreatVFloat3
set_option linter.unusedVariables false
set_option linter.unusedSimpArgs false
namespace Go.Proofs.YtolkchkedieppaaGreat
open Go Go.RowKit
/-- operation t waiting for x as well, x for what binds it alone -/
def wop (t x j : Nat) (o : Oper) : Oper := if j = t then { o with after := o.after.push ⟨x, .data⟩ } else if j = x then { o with after := (o.after.toList.filter (Region.binds .any)).toArray } else o
def waitsL (t x : Nat) : Nat → List Oper → List Oper
 | _, [] => []
 | j, o :: l => wop t x j o :: waitsL t x (j + 1) l
def waitsX (ops : Array Oper) (t x : Nat) : Array Oper := (waitsL t x 0 ops.toList).toArray
theorem waitsL_get (t x : Nat) : ∀ (l : List Oper) (j i : Nat), (waitsL t x j l)[i]? = l[i]?.map (wop t x (j + i))
 | [], _, _ => by simp [waitsL]
 | o :: l, j, 0 => by simp [waitsL]
 | o :: l, j, i + 1 => by simp only [waitsL, List.getElem?_cons_succ]; rw [waitsL_get t x l (j + 1) i, show j + 1 + i = j + (i + 1) by omega]
theorem waitsL_len (t x : Nat) : ∀ (l : List Oper) (j : Nat), (waitsL t x j l).length = l.length
 | [], _ => rfl
 | o :: l, j => by simp only [waitsL, List.length_cons, waitsL_len t x l (j + 1)]
/-- what an operation waits for, listed -/
def doneBy (ot : Oper) (n : Nat) : Array Bool := ((List.range n).map (fun j => ot.after.any (fun e => Region.binds .any e && decide (e.on = j)))).toArray
/-- x is an extract that nothing else meddles with; what it waits for, t waits for too -/
def waitsB (ops : Array Oper) (t x : Nat) : Bool :=
 decide (t ≠ x) && decide (x < ops.size) && decide (t < ops.size) && Region.noSelect ops &&
 (match ops[x]? with | some ox => (match ox.op with | .extract _ _ => true | _ => false) && ox.guard.isNone && ox.dst.isSome &&
   (match ops[t]? with | some ot => Region.free .any ops (doneBy ot ops.size) x && ox.after.all (fun e => !Region.binds .any e || ot.after.any (fun e2 => Region.binds .any e2 && decide (e2.on = e.on))) | none => false) | none => false)
section
variable {P : Program} {ops : Array Oper} {Q : Exit → Act → World → Prop} {t x : Nat}
theorem waitsX_some (j : Nat) (o : Oper) (h : ops[j]? = some o) : (waitsX ops t x)[j]? = some (wop t x j o) := by
 unfold waitsX
 rw [List.getElem?_toArray, waitsL_get, Array.getElem?_toList, h]; simp
theorem waitsX_none (j : Nat) (h : ops[j]? = none) : (waitsX ops t x)[j]? = none := by
 unfold waitsX
 rw [List.getElem?_toArray, waitsL_get, Array.getElem?_toList, h]; rfl
theorem waitsX_size : (waitsX ops t x).size = ops.size := by unfold waitsX; simp [waitsL_len]
theorem wop_cases (j : Nat) (o : Oper) : wop t x j o = { o with after := o.after.push ⟨x, .data⟩ } ∧ j = t ∨ wop t x j o = { o with after := (o.after.toList.filter (Region.binds .any)).toArray } ∧ j ≠ t ∨ wop t x j o = o ∧ j ≠ t := by
 unfold wop
 by_cases e : j = t
 ·rw [if_pos e]; exact .inl ⟨rfl, e⟩
 ·rw [if_neg e]
  by_cases e2 : j = x
  ·rw [if_pos e2]; exact .inr (.inl ⟨rfl, e⟩)
  ·rw [if_neg e2]; exact .inr (.inr ⟨rfl, e⟩)
theorem yielded_waits (T : Array Value) (j : Nat) : yielded (waitsX ops t x) T j = yielded ops T j := by
 unfold yielded
 cases ho : ops[j]? with
 | none => rw [waitsX_none j ho]
 | some o =>
  rw [waitsX_some j o ho]
  rcases wop_cases (t := t) (x := x) j o with ⟨e, _⟩ | ⟨e, _⟩ | ⟨e, _⟩ <;> rw [e] <;> rfl
theorem wpOp_waits {i : Nat} {K : Act → World → Prop} {a : Act} {w : World} (h : wpOp P (waitsX ops t x) Q i K a w) : wpOp P ops Q i K a w := by
 have hy : yielded (waitsX ops t x) a.tmps = yielded ops a.tmps := funext (fun j => yielded_waits _ j)
 unfold wpOp at *
 rw [hy] at h
 cases ho : ops[i]? with
 | none => rw [waitsX_none i ho] at h; exact h
 | some o =>
  rw [waitsX_some i o ho] at h
  rcases wop_cases (t := t) (x := x) i o with ⟨e, _⟩ | ⟨e, _⟩ | ⟨e, _⟩ <;> rw [e] at h <;> exact h
theorem ready_waits {L : Array Bool} (j : Nat) : j ∈ Region.ready .any (waitsX ops t x) L ↔ j ∈ Region.ready .any ops L ∧ (j = t → L.getD x false = true) := by
 rw [mem_ready, mem_ready]
 constructor
 ·rintro ⟨h0, o', ho', h⟩
  cases ho : ops[j]? with
  | none => rw [waitsX_none j ho] at ho'; cases ho'
  | some o =>
   rw [waitsX_some j o ho] at ho'
   injection ho' with ho'
   rcases wop_cases (t := t) (x := x) j o with ⟨e, e2⟩ | ⟨e, e2⟩ | ⟨e, e2⟩ <;> rw [e] at ho' <;> subst ho'
   ·simp only [Array.mem_push] at h
    exact ⟨⟨h0, o, rfl, fun e he hb => h e (.inl he) hb⟩, fun _ => h ⟨x, .data⟩ (.inr rfl) rfl⟩
   ·simp only [List.mem_toArray, List.mem_filter, Array.mem_toList_iff] at h
    exact ⟨⟨h0, o, rfl, fun e he hb => h e ⟨he, hb⟩ hb⟩, fun e3 => absurd e3 e2⟩
   ·exact ⟨⟨h0, _, rfl, h⟩, fun e3 => absurd e3 e2⟩
 ·rintro ⟨⟨h0, o, ho, h⟩, hx⟩
  refine ⟨h0, _, waitsX_some j o ho, ?_⟩
  rcases wop_cases (t := t) (x := x) j o with ⟨e, e2⟩ | ⟨e, e2⟩ | ⟨e, e2⟩ <;> rw [e]
  ·simp only [Array.mem_push]
   rintro e3 (he | rfl) hb
   ·exact h e3 he hb
   ·exact hx e2
  ·simp only [List.mem_toArray, List.mem_filter, Array.mem_toList_iff]
   exact fun e3 he hb => h e3 he.1 hb
  ·exact h
/-- an extract yields in every world, or nothing is shown of it -/
theorem extract_yields {o : Oper} {u : Operand} {k : Nat} (ho : o.op = .extract u k) (hg : o.guard = none) {K : Act → World → Prop} {a : Act} {w : World} (h : o.wp P a w K Q ∨ (o.asks P a w ∧ LetsOut Q)) :
  ∃ v, Yields P ops o v a ∧ K (a.put o.dst v) w := by
 have hw : Region.wanted o (yielded ops a.tmps) = true := by unfold Region.wanted; rw [hg]
 have hrun : (∃ v, execOp a.eval o = Sem.pure (.value v)) ∨ ∃ s, execOp a.eval o = Sem.halt (.stuck s) := by
  unfold execOp
  rw [ho]
  simp only [Instr.extract]
  split
  ·split
   ·exact .inl ⟨_, rfl⟩
   ·exact .inr ⟨_, rfl⟩
  ·exact .inr ⟨_, rfl⟩
 rcases hrun with ⟨v, hv⟩ | ⟨s, hs⟩
 ·have hr : ∀ w, (execOp a.eval o).run P w = .ok (.value v) w := fun w => by rw [hv]; rfl
  refine ⟨v, .inl ⟨hw, hr⟩, ?_⟩
  rcases h with h | ⟨h, _⟩
  ·unfold Oper.wp at h
   rw [hr] at h
   exact h
  ·unfold Oper.asks at h
   rw [hv] at h
   have h1 := h.1
   simp [Sem.runT] at h1
 ·rcases h with h | ⟨h, _⟩
  ·unfold Oper.wp at h
   rw [hs] at h
   exact h.elim
  ·unfold Oper.asks at h
   rw [hs] at h
   have h1 := h.1
   simp [Sem.runT] at h1
theorem waitsB_spec (h : waitsB ops t x = true) : t ≠ x ∧ x < ops.size ∧ t < ops.size ∧ Region.noSelect ops = true ∧
  ∃ ox u k, ops[x]? = some ox ∧ ox.op = .extract u k ∧ ox.guard = none ∧ ∃ ot, ops[t]? = some ot ∧ Region.free .any ops (doneBy ot ops.size) x = true ∧ ∀ e ∈ ox.after, Region.binds .any e = true → ∃ e2 ∈ ot.after, Region.binds .any e2 = true ∧ e2.on = e.on := by
 unfold waitsB at h
 simp only [Bool.and_eq_true, decide_eq_true_eq] at h
 obtain ⟨⟨⟨⟨h1, h2⟩, h3⟩, h4⟩, h6⟩ := h
 refine ⟨h1, h2, h3, h4, ?_⟩
 split at h6
 ·rename_i ox hox
  simp only [Bool.and_eq_true] at h6
  obtain ⟨⟨⟨k1, k2⟩, k3⟩, k4⟩ := h6
  split at k1
  ·rename_i u k hop
   split at k4
   ·rename_i ot hot
    rw [Bool.and_eq_true] at k4
    refine ⟨ox, u, k, hox, hop, by simpa using k2, ot, hot, k4.1, fun e he hb => ?_⟩
    have := Array.all_eq_true_iff_forall_mem.1 k4.2 e he
    simp only [hb, Bool.not_true, Bool.false_or] at this
    obtain ⟨e2, he2, hh⟩ := Array.any_eq_true'.1 this
    simp only [Bool.and_eq_true, decide_eq_true_eq] at hh
    exact ⟨e2, he2, hh.1, hh.2⟩
   ·cases k4
  ·cases k1
 ·cases h6
theorem wpAny_waits (hB : waitsB ops t x = true) (hQ : ∀ c a w d v, Q (.panic c) (a.put d v) w → Q (.panic c) a w) :
  ∀ (f : Nat) (L : Array Bool) (a : Act) (w : World), L.size = ops.size → wpAny P .any (waitsX ops t x) Q f L a w → wpAny P .any ops Q f L a w := by
 obtain ⟨htx, hxs, hts, hsel, ox, u, k, hox, hop, hg, ot, hot, hfree, hed⟩ := waitsB_spec hB
 -- t is ready, but for x: then x is
 have hxr : ∀ (L : Array Bool), L.size = ops.size → t ∈ Region.ready .any ops L → ¬ L.getD x false = true → x ∈ Region.ready .any ops L := fun L hL ht hn => by
  obtain ⟨_, o, ho, hall⟩ := mem_ready.1 ht
  rw [hot] at ho; injection ho with ho; subst ho
  refine mem_ready.2 ⟨?_, ox, hox, fun e he hb => ?_⟩
  ·rw [getD_in L x (by omega) true false]; simpa using hn
  ·obtain ⟨e2, he2, hb2, heq⟩ := hed e he hb
   rw [← heq]; exact hall e2 he2 hb2
 intro f
 induction f with
 | zero =>
  intro L a w hL h
  refine ⟨List.eq_nil_iff_forall_not_mem.2 (fun j hj => ?_), h.2⟩
  have hno : ∀ i, i ∉ Region.ready .any (waitsX ops t x) L := fun i hi => by rw [h.1] at hi; cases hi
  by_cases e : j = t ∧ ¬ L.getD x false = true
  ·obtain ⟨rfl, e2⟩ := e
   exact hno x ((ready_waits x).2 ⟨hxr L hL hj e2, fun e3 => absurd e3.symm htx⟩)
  ·exact hno j ((ready_waits j).2 ⟨hj, fun e2 => Decidable.byContradiction (fun e3 => e ⟨e2, e3⟩)⟩)
 | succ f ih =>
  intro L a w hL h
  by_cases e : t ∈ Region.ready .any ops L ∧ ¬ L.getD x false = true
  ·have hx := hxr L hL e.1 e.2
   have h1 := h.2 x ((ready_waits x).2 ⟨hx, fun e3 => absurd e3.symm htx⟩)
   have h2 := wpOp_waits h1
   have hw : Region.wanted ox (yielded ops a.tmps) = true := by unfold Region.wanted; rw [hg]
   unfold wpOp at h2
   simp only [hox, hw, if_true] at h2
   obtain ⟨v, hy, hK⟩ := extract_yields (ops := ops) hop hg h2
   refine wpAny_first hox (Region.noSelect_spec hsel) (fun c a w hq => hQ c a w _ _ hq) f L a w (fun j oj hj hne hun hno => ?_) hx hy (ih _ _ _ (by simpa using hL) hK)
   have hj2 : j < ops.size := (Array.getElem?_eq_some_iff.1 hj).1
   refine Region.free_spec hox hfree j oj hj hne ?_ hno
   have hd : (doneBy ot ops.size).getD j true = ot.after.any (fun e => Region.binds .any e && decide (e.on = j)) := by simp [doneBy, Array.getD, hj2]
   rw [hd]
   rcases hany : ot.after.any (fun e => Region.binds .any e && decide (e.on = j)) with _ | _
   ·rfl
   ·obtain ⟨e2, he2, hh⟩ := Array.any_eq_true'.1 hany
    simp only [Bool.and_eq_true, decide_eq_true_eq] at hh
    obtain ⟨_, o, ho, hall⟩ := mem_ready.1 e.1
    rw [hot] at ho; injection ho with ho; subst ho
    have h9 := hall e2 he2 hh.1
    rw [hh.2] at h9
    rw [getD_in L j (by omega) true false, h9] at hun
    cases hun
  ·refine ⟨fun h0 => h.1 (List.eq_nil_iff_forall_not_mem.2 (fun j hj => ?_)), fun j hj => ?_⟩
   ·have := ((ready_waits j).1 hj).1
    rw [h0] at this; cases this
   ·have hj' := (ready_waits (t := t) (x := x) j).2 ⟨hj, fun e2 => Decidable.byContradiction (fun e3 => e ⟨e2 ▸ hj, e3⟩)⟩
    exact wpOp_mono (fun a2 w2 h3 => ih _ _ _ (by simpa using hL) h3) (wpOp_waits (h.2 j hj'))
/-- two variables, as wp_region_box2 has them, where an extract is taken ahead -/
theorem wp_region_box2x {S : World → Prop} {al al2 : Oper} {d d2 : Tmp} {zs : Array Value} {ty : TypeId} {id : Nat} {a : Act} {w : World} (t x : Nat) (hX : waitsB ops t x = true) (hQX : ∀ c a w d v, Q (.panic c) (a.put d v) w → Q (.panic c) a w) (hst : StaysB S) (hm : P.follows .mixedOrders = true)
  (hB : (decide (3 < (waitsX ops t x).size) && lastB (waitsX ops t x) && lastB (waitsX ops t x).pop && floatB (waitsX ops t x).pop.pop.pop al2 d2 && floatB (waitsX ops t x).pop.pop.pop.pop al d) = true) (hal : (waitsX ops t x).pop.pop.pop.back? = some al) (hal2 : (waitsX ops t x).pop.pop.back? = some al2)
  (hz : ∀ (a : Act) (w : World), (execOp a.eval al).run P w = .ok (.value (.pointer (some ⟨w.heap.size, 0, none⟩))) (w.alloc (.cells zs ty)))
  (hz2 : ∀ (a : Act) (w : World), (execOp a.eval al2).run P w = .ok (.value (.pointer (some ⟨w.heap.size, 0, none⟩))) (w.alloc (.cells zs ty)))
  (hdst : (waitsX ops t x).pop.pop.pop.pop.all (fun x => decide (x.dst ≠ some d)) = true)
  (hQ : ∀ c a w d v, Q (.panic c) a w → Q (.panic c) (a.put (some d) v) w) (hS : S w.drew) (hv : ∀ z, a.tmps[d]? = some (.pointer (some ⟨z, 0, none⟩)) → z < w.heap.size) {ops' : Array Oper} (hops : waitsX ops t x = ops')
  (h : S w.drew → wpAnyE P ops'.pop.pop.pop.pop (FloatQ w.heap.size d zs ty (FloatV w.heap.size d2 d zs ty (LastQ P ops'.pop ops'.pop.pop.size (LastQ P ops' ops'.pop.size Q)))) S ops'.pop.pop.pop.pop.size (Array.replicate ops'.pop.pop.pop.pop.size false) a w.drew) : (Code.region id ops true).wp P Q a w := by
 refine wp_region_any hm ?_
 refine wpAny_waits hX hQX _ _ _ _ (by simp) ?_
 rw [← waitsX_size (ops := ops) (t := t) (x := x), hops]
 rw [hops] at hB hal hal2 hdst
 exact wp_box2_any hst hm hB hal hal2 hz hz2 hdst hQ hS hv h
end
end Go.Proofs.YtolkchkedieppaaGreat
