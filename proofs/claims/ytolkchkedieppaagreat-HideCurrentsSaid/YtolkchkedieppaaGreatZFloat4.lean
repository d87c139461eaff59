/- Two variables of a region's own: they are not one. -/
import Derived.Test.YtolkchkedieppaaGreatZTakesE
import Derived.Test.YtolkchkedieppaaGreatZRat4
set_option linter.unusedVariables false
set_option linter.unusedSimpArgs false
namespace Go.Proofs.YtolkchkedieppaaGreat
open Go Go.RowKit
section
variable {P : Program} {ops : Array Oper} {Q : Exit → Act → World → Prop} {S : World → Prop}
/-- slot av is as it was, or holds the block that was made right now -/
def AvS (av : Tmp) (a a' : Act) (w w2 : World) : Prop := a'.tmps[av]? = a.tmps[av]? ∨ ∀ z, a'.tmps[av]? = some (.pointer (some ⟨z, 0, none⟩)) → z = w.heap.size ∧ z < w2.heap.size
theorem avS_put {av : Tmp} {o : Oper} {a : Act} {v : Value} {w w2 : World} (h : o.dst = some av → ∀ z, v = .pointer (some ⟨z, 0, none⟩) → z = w.heap.size ∧ z < w2.heap.size) : AvS av a (a.put o.dst v) w w2 := by
 unfold AvS Act.put
 cases hd : o.dst with
 | none => exact .inl rfl
 | some t =>
  by_cases e : t = av
  ·subst e
   right
   intro z hz
   by_cases hs : t < a.tmps.size
   ·simp [hs] at hz
    exact h hd z hz
   ·simp [hs] at hz
  ·left
   simp [Array.getElem?_setIfInBounds_ne e]
theorem wpOp_av {j : Nat} {oj : Oper} {av : Tmp} {zs : Array Value} {t : TypeId} (hj : ops[j]? = some oj)
  (hop : oj.dst = some av → ∀ (a : Act) (w : World), (execOp a.eval oj).run P w = .ok (.value (.pointer (some ⟨w.heap.size, 0, none⟩))) (w.alloc (.cells zs t)))
  {K : Act → World → Prop} {a : Act} {w : World} (h : wpOp P ops Q j K a w) : wpOp P ops Q j (fun a' w' => AvS av a a' w w' ∧ K a' w') a w := by
 have und : ∀ w2, AvS av a (a.put oj.dst undef) w w2 := fun w2 => avS_put (fun _ z hz => by cases hz)
 unfold wpOp at *
 simp only [hj] at *
 split
 ·rename_i hw
  simp only [hw, if_true] at h
  rcases h with h | h
  case inr => exact .inr h
  refine .inl ?_
  by_cases hd : oj.dst = some av
  ·unfold Oper.wp at *
   rw [hop hd a w] at *
   simp only [Oper.upon] at h ⊢
   exact ⟨avS_put (fun _ z hz => by injection hz with hz; injection hz with hz; injection hz with hz; subst hz; exact ⟨rfl, by simp⟩), h⟩
  ·have hput : ∀ u w2, AvS av a (a.put oj.dst u) w w2 := fun u w2 => avS_put (fun h0 => absurd h0 hd)
   unfold Oper.wp at *
   generalize (execOp a.eval oj).run P w = r at *
   cases r with
   | ok n w' =>
    cases n <;> simp only [Oper.upon] at h ⊢
    case value u => exact ⟨hput u _, h⟩
    case skip => exact ⟨hput _ _, h⟩
    case defer dd => exact ⟨avS_put (a := { a with defers := dd :: a.defers }) (fun h0 => absurd h0 hd), h⟩
    case enter f args =>
     refine Calls.mono h fun e w2 he => ?_
     cases e with
     | returned u => exact ⟨hput u _, he⟩
     | panicked c => exact he
     | outgrown => exact he
    case row row args => exact Rows.mono h fun u w2 he => ⟨hput u _, he⟩
   | halt x w' =>
    cases x <;> simp only [Oper.upon] at h ⊢
    case panic u => exact h
 ·rename_i hw
  simp only [hw] at h
  exact ⟨und _, h⟩
end
section
variable {P : Program} {pre : Array Oper} {al : Oper} {Q : Exit → Act → World → Prop} {S : World → Prop} {d av : Tmp} {zs : Array Value} {t : TypeId}
/-- behind the region: a variable of its own has been made somewhere on the way, and it is not slot av's -/
def FloatV (B0 : Nat) (d av : Tmp) (zs : Array Value) (t : TypeId) (Q : Exit → Act → World → Prop) : Exit → Act → World → Prop :=
 Exit.then (fun a w => ∀ x w', Below w.heap.size w w' → B0 ≤ x → w'.heap[x]? = some (.cells zs t (0, 0)) → (∀ z, a.tmps[av]? = some (.pointer (some ⟨z, 0, none⟩)) → z ≠ x) → Q .normal (a.put (some d) (.pointer (some ⟨x, 0, none⟩))) w') Q
theorem oper_floatV {B0 : Nat} {x : Oper} {K : Act → World → Prop} {a : Act} {w : World} (h : x.wp P a w K (FloatV B0 d av zs t Q)) : x.wp P a w K Q := by
 unfold Oper.wp at *
 generalize (execOp a.eval x).run P w = r at *
 cases r with
 | ok m w' => cases m <;> exact h
 | halt e w' => cases e <;> exact h
theorem wpOp_floatV {B0 i : Nat} (hB : floatB pre al d = true) (hi : i < pre.size) {K K' : Act → World → Prop} (hK : ∀ a w, K a w → K' a w) {a : Act} {w : World} (h : wpOp P pre (FloatV B0 d av zs t Q) i K a w) : wpOp P (pre.push al) Q i K' a w := by
 obtain ⟨x, hx⟩ : ∃ x, pre[i]? = some x := ⟨_, Array.getElem?_eq_getElem hi⟩
 obtain ⟨-, -, -, -, h5⟩ := floatB_spec hB
 obtain ⟨-, g2, -, -⟩ := h5 i x hx
 unfold wpOp at *
 rw [push_get i hi, hx]
 rw [hx] at h
 simp only at h ⊢
 rw [wanted_push a g2]
 split
 ·rename_i hw
  rw [if_pos hw] at h
  rcases h with h | ⟨h1, h2⟩
  ·exact .inl (oper_floatV (Oper.wp_mono hK h))
  ·exact .inr ⟨h1, h2⟩
 ·rename_i hw
  rw [if_neg hw] at h
  exact hK _ _ h
/-- the operations that write slot av make a block -/
def AvOK (P : Program) (pre : Array Oper) (av : Tmp) : Prop := ∀ (i : Nat) (x : Oper), pre[i]? = some x → x.dst = some av → ∃ zs t, ∀ (a : Act) (w : World), (execOp a.eval x).run P w = .ok (.value (.pointer (some ⟨w.heap.size, 0, none⟩))) (w.alloc (.cells zs t))
theorem wpOp_av' (hav : AvOK P pre av) {i : Nat} {x : Oper} (hx : pre[i]? = some x) {K : Act → World → Prop} {a : Act} {w : World} (h : wpOp P pre Q i K a w) : wpOp P pre Q i (fun a' w' => AvS av a a' w w' ∧ K a' w') a w := by
 by_cases hd : x.dst = some av
 ·obtain ⟨zs, t, hz⟩ := hav i x hx hd
  exact wpOp_av (zs := zs) (t := t) hx (fun _ => hz) h
 ·exact wpOp_av (zs := #[]) (t := 0) hx (fun h0 => absurd h0 hd) h
theorem floatV_done {B0 : Nat} (hB : floatB pre al d = true) (hav : AvOK P pre av) (hQ : ∀ c a w v, Q (.panic c) a w → Q (.panic c) (a.put (some d) v) w) (x : Nat) (hx : B0 ≤ x) :
  ∀ (f : Nat) (L : Array Bool) (a : Act) (w : World), L.size = pre.size → w.heap[x]? = some (.cells zs t (0, 0)) → (∀ z, a.tmps[av]? = some (.pointer (some ⟨z, 0, none⟩)) → z ≠ x) →
   wpAnyE P pre (FloatV B0 d av zs t Q) S f L a w → wpAnyE P (pre.push al) Q S f (L.push true) (a.put (some d) (.pointer (some ⟨x, 0, none⟩))) w := by
 obtain ⟨-, -, -, h4, h5⟩ := floatB_spec hB
 have keep : ∀ {w w' : World}, w.heap[x]? = some (.cells zs t (0, 0)) → Below w.heap.size w w' → w'.heap[x]? = some (.cells zs t (0, 0)) := fun h hb => by
  rw [hb.block x (Array.getElem?_eq_some_iff.1 h).1]; exact h
 have rd : ∀ (L : Array Bool), L.size = pre.size → Region.ready .any pre L = [] → Region.ready .any (pre.push al) (L.push true) = [] := fun L hL hr => by
  refine List.eq_nil_iff_forall_not_mem.2 (fun j hj => ?_)
  rcases (ready_float hB hL true j).1 hj with h | ⟨_, h⟩
  ·rw [hr] at h; cases h
  ·cases h
 intro f
 induction f with
 | zero =>
  intro L a w hL hw hz h
  exact ⟨rd L hL h.1, fun w' hb => h.2 w' hb x w' (Below.refl _ _) hx (keep hw hb) hz⟩
 | succ f ih =>
  intro L a w hL hw hz h w' hb
  obtain ⟨g1, g2⟩ := h w' hb
  refine ⟨fun h0 => ?_, fun i hi => ?_⟩
  ·have : Region.ready .any pre L = [] := List.eq_nil_iff_forall_not_mem.2 (fun j hj => by
    have := (ready_float hB hL true j).2 (.inl hj)
    rw [h0] at this; cases this)
   exact g1 this x w' (Below.refl _ _) hx (keep hw hb) hz
  ·rcases (ready_float hB hL true i).1 hi with hi' | ⟨_, h⟩
   ·obtain ⟨_, oi, hoi, _⟩ := mem_ready.1 hi'
    have his : i < pre.size := (Array.getElem?_eq_some_iff.1 hoi).1
    obtain ⟨k1, k2, k3, k4⟩ := h5 i oi hoi
    have s1 := wpOp_floatV (al := al) hB his (K' := fun a' w2 => AvS av a a' w' w2 ∧ S w2 ∧ Below w'.heap.size w' w2 ∧ wpAnyE P pre (FloatV B0 d av zs t Q) S f (L.setIfInBounds i true) a' w2) (fun _ _ h => h) (wpOp_av' hav hoi (g2 i hi'))
    have s2 := wpOp_put (ops := pre.push al) (d := d) (v := .pointer (some ⟨x, 0, none⟩)) (by rw [push_get i his]; exact hoi) (by rw [looks_push k2]; exact k3) k4 (fun cs b => Region.noSelect_spec h4 i oi cs b hoi) (fun c a w h => hQ c a w _ h) s1
    refine wpOp_mono (fun a2 w2 h3 => ?_) s2
    obtain ⟨a1, rfl, q0, q1, q2, q3⟩ := h3
    rw [set_early' L true i (by omega)]
    refine ⟨q1, q2, ih _ a1 w2 (by simpa using hL) (keep (keep hw hb) q2) (fun z h6 => ?_) q3⟩
    rcases q0 with q0 | q0
    ·exact hz z (by rw [← q0]; exact h6)
    ·have h7 := (q0 z h6).1
     have h8 := (Array.getElem?_eq_some_iff.1 (keep hw hb)).1
     omega
   ·cases h
theorem wpAnyE_floatV {B0 : Nat} (hst : StaysB S) (hB : floatB pre al d = true) (hav : AvOK P pre av) (hz : ∀ (a : Act) (w : World), (execOp a.eval al).run P w = .ok (.value (.pointer (some ⟨w.heap.size, 0, none⟩))) (w.alloc (.cells zs t)))
  (hQ : ∀ c a w v, Q (.panic c) a w → Q (.panic c) (a.put (some d) v) w) :
  ∀ (f : Nat) (L : Array Bool) (a : Act) (w : World), L.size = pre.size → B0 ≤ w.heap.size → S w → (∀ z, a.tmps[av]? = some (.pointer (some ⟨z, 0, none⟩)) → z < w.heap.size) →
   wpAnyE P pre (FloatV B0 d av zs t Q) S f L a w → wpAnyE P (pre.push al) Q S (f + 1) (L.push false) a w := by
 obtain ⟨e1, e2, e3, e4, e5⟩ := floatB_spec hB
 have make : ∀ (f : Nat) (L : Array Bool) (a : Act) (w w' : World), L.size = pre.size → B0 ≤ w.heap.size → S w → Below w.heap.size w w' → (∀ z, a.tmps[av]? = some (.pointer (some ⟨z, 0, none⟩)) → z < w.heap.size) →
   wpAnyE P pre (FloatV B0 d av zs t Q) S f L a w → wpOp P (pre.push al) Q pre.size (fun a' w2 => S w2 ∧ Below w'.heap.size w' w2 ∧ wpAnyE P (pre.push al) Q S f ((L.push false).setIfInBounds pre.size true) a' w2) a w' := by
  intro f L a w w' hL h0 hS hb hv h
  refine wpOp_step (o := al) (by rw [Array.getElem?_push, if_pos rfl]) (fun K hK => ?_)
  have hw : Region.wanted al (yielded (pre.push al) a.tmps) = true := by simp [Region.wanted, e2]
  rw [if_pos hw]
  unfold Oper.wp
  rw [hz]
  simp only [Oper.upon]
  have hb2 : Below w'.heap.size w' (w'.alloc (.cells zs t)) := (Below.refl _ _).alloc (Nat.le_refl _) _
  refine hK _ _ ⟨hst _ _ (hst _ _ hS hb) hb2, hb2, ?_⟩
  rw [set_last L pre.size hL, e3]
  exact floatV_done hB hav hQ w'.heap.size (Nat.le_trans h0 hb.size) f L a _ hL (heap_alloc_new w' _) (fun z h6 => by have := hv z h6; have := hb.size; omega) (wpAnyE_mono f h (bl_trans hb hb2))
 intro f
 induction f with
 | zero =>
  intro L a w hL h0 hS hv h w' hb
  have mem := (ready_float hB hL false pre.size).2 (.inr ⟨rfl, rfl⟩)
  refine ⟨fun h2 => (by rw [h2] at mem; cases mem), fun i hi => ?_⟩
  rcases (ready_float hB hL false i).1 hi with hi' | ⟨rfl, _⟩
  ·rw [h.1] at hi'; cases hi'
  ·exact make 0 L a w w' hL h0 hS hb hv h
 | succ f ih =>
  intro L a w hL h0 hS hv h w' hb
  have mem := (ready_float hB hL false pre.size).2 (.inr ⟨rfl, rfl⟩)
  refine ⟨fun h2 => (by rw [h2] at mem; cases mem), fun i hi => ?_⟩
  rcases (ready_float hB hL false i).1 hi with hi' | ⟨rfl, _⟩
  ·obtain ⟨_, oi, hoi, _⟩ := mem_ready.1 hi'
   have his : i < pre.size := (Array.getElem?_eq_some_iff.1 hoi).1
   have s1 := wpOp_floatV (al := al) hB his (K' := fun a' w2 => AvS av a a' w' w2 ∧ S w2 ∧ Below w'.heap.size w' w2 ∧ wpAnyE P pre (FloatV B0 d av zs t Q) S f (L.setIfInBounds i true) a' w2) (fun _ _ h => h) (wpOp_av' hav hoi ((h w' hb).2 i hi'))
   refine wpOp_mono (fun a2 w2 h3 => ?_) s1
   obtain ⟨q0, q1, q2, q3⟩ := h3
   rw [set_early' L false i (by omega)]
   have hsz := q2.size
   -- the block of slot av lies below what is there now
   by_cases hlt : ∀ z, a2.tmps[av]? = some (.pointer (some ⟨z, 0, none⟩)) → z < w2.heap.size
   ·exact ⟨q1, q2, ih _ a2 w2 (by simpa using hL) (Nat.le_trans (Nat.le_trans h0 hb.size) q2.size) q1 hlt q3⟩
   ·exfalso
    refine hlt (fun z h6 => ?_)
    rcases q0 with q0 | q0
    ·have := hv z (by rw [← q0]; exact h6)
     have := hb.size
     omega
    ·exact (q0 z h6).2
  ·exact make (f + 1) L a w w' hL h0 hS hb hv h
end
end Go.Proofs.YtolkchkedieppaaGreat

/- Regions that draw their order, make one or two variables of their own and store into them at the end. -/
namespace Go.Proofs.YtolkchkedieppaaGreat
open Go Go.RowKit
theorem cell_stays {w w' : World} {p : Addr} {v : Value} (h : w.cell? p = some v) (hb : Below w.heap.size w w') : w'.cell? p = some v := by
 rw [hb.cell (World.block_lt_of_cell? w p (by rw [h]))]; exact h
theorem own4_block {w : World} {x : Nat} {a b c d : Value} {t : TypeId} (h : w.heap[x]? = some (.cells #[a, b, c, d] t (0, 0))) : Own4 w x a b c d :=
 ⟨by simp [World.cell?, h], by simp [World.cell?, h], by simp [World.cell?, h], by simp [World.cell?, h], fun o => by simp [World.frozen?, h], (Array.getElem?_eq_some_iff.1 h).1⟩
theorem own2_of_block {w : World} {x : Nat} {a b : Value} {t : TypeId} (h : w.heap[x]? = some (.cells #[a, b] t (0, 0))) : Own2 w x a b :=
 ⟨by simp [World.cell?, h], by simp [World.cell?, h], fun o => by simp [World.frozen?, h], (Array.getElem?_eq_some_iff.1 h).1⟩
section
variable {P : Program} {ops : Array Oper} {Q : Exit → Act → World → Prop} {S : World → Prop} {al : Oper} {d : Tmp} {zs : Array Value} {t : TypeId}
theorem clL_none {pre : Array Oper} (n : Nat) : ClL pre (Array.replicate n false) := fun j x hj => by
 exfalso
 simp [Array.getD] at hj
theorem rep_push (n : Nat) : (Array.replicate n false).push false = Array.replicate (n + 1) false := by simp [Array.replicate_succ]
/-- a variable of the region's own, which the last operation stores into -/
theorem wp_region_box {id : Nat} {a : Act} {w : World} (hst : StaysB S) (hm : P.follows .mixedOrders = true) (hB : (decide (1 < ops.size) && lastB ops && floatB ops.pop.pop al d) = true) (hal : ops.pop.back? = some al)
  (hz : ∀ (a : Act) (w : World), (execOp a.eval al).run P w = .ok (.value (.pointer (some ⟨w.heap.size, 0, none⟩))) (w.alloc (.cells zs t)))
  (hQ : ∀ c a w v, Q (.panic c) a w → Q (.panic c) (a.put (some d) v) w) (hS : S w.drew)
  (h : S w.drew → wpAnyE P ops.pop.pop (FloatQ w.heap.size d zs t (LastQ P ops ops.pop.size Q)) S ops.pop.pop.size (Array.replicate ops.pop.pop.size false) a w.drew) : (Code.region id ops true).wp P Q a w := by
 simp only [Bool.and_eq_true, decide_eq_true_eq] at hB
 obtain ⟨⟨h0, hB⟩, hF⟩ := hB
 obtain ⟨ops1, st, rfl⟩ : ∃ pre o, ops = Array.push pre o := Array.eq_push_of_size_ne_zero (by omega)
 obtain ⟨pre, al', rfl⟩ : ∃ pre o, ops1 = Array.push pre o := Array.eq_push_of_size_ne_zero (by simp at h0; omega)
 simp only [Array.pop_push] at *
 rw [Array.back?_push] at hal
 injection hal with hal
 subst hal
 refine wp_region_any hm ?_
 have h1 := wpAnyE_float (P := P) (Q := LastQ P ((pre.push al').push st) (pre.push al').size Q) (S := S) (t := t) (zs := zs) (B0 := w.heap.size) hst hF hz hQ pre.size (Array.replicate pre.size false) a w.drew (by simp) (Nat.le_refl _) hS (h hS)
 rw [rep_push] at h1
 have h2 := wpAny_last hB (pre.size + 1) (Array.replicate (pre.size + 1) false) a w.drew (by simp) (clL_none _) (wpAny_of_E _ _ _ _ (by simpa using h1))
 rw [rep_push] at h2
 simpa using h2
/-- two variables of the region's own, which the last two operations store into -/
theorem wp_box2_any {al2 : Oper} {d2 : Tmp} {a : Act} {w : World} (hst : StaysB S) (hm : P.follows .mixedOrders = true)
  (hB : (decide (3 < ops.size) && lastB ops && lastB ops.pop && floatB ops.pop.pop.pop al2 d2 && floatB ops.pop.pop.pop.pop al d) = true) (hal : ops.pop.pop.pop.back? = some al) (hal2 : ops.pop.pop.back? = some al2)
  (hz : ∀ (a : Act) (w : World), (execOp a.eval al).run P w = .ok (.value (.pointer (some ⟨w.heap.size, 0, none⟩))) (w.alloc (.cells zs t)))
  (hz2 : ∀ (a : Act) (w : World), (execOp a.eval al2).run P w = .ok (.value (.pointer (some ⟨w.heap.size, 0, none⟩))) (w.alloc (.cells zs t)))
  (hdst : ops.pop.pop.pop.pop.all (fun x => decide (x.dst ≠ some d)) = true)
  (hQ : ∀ c a w d v, Q (.panic c) a w → Q (.panic c) (a.put (some d) v) w) (hS : S w.drew) (hv : ∀ z, a.tmps[d]? = some (.pointer (some ⟨z, 0, none⟩)) → z < w.heap.size)
  (h : S w.drew → wpAnyE P ops.pop.pop.pop.pop (FloatQ w.heap.size d zs t (FloatV w.heap.size d2 d zs t (LastQ P ops.pop ops.pop.pop.size (LastQ P ops ops.pop.size Q)))) S ops.pop.pop.pop.pop.size (Array.replicate ops.pop.pop.pop.pop.size false) a w.drew) : wpAny P .any ops Q ops.size (Array.replicate ops.size false) a w.drew := by
 simp only [Bool.and_eq_true, decide_eq_true_eq] at hB
 obtain ⟨⟨⟨⟨h0, hB⟩, hB2⟩, hF2⟩, hF⟩ := hB
 obtain ⟨ops1, st, rfl⟩ : ∃ pre o, ops = Array.push pre o := Array.eq_push_of_size_ne_zero (by omega)
 obtain ⟨ops2, st2, rfl⟩ : ∃ pre o, ops1 = Array.push pre o := Array.eq_push_of_size_ne_zero (by simp at h0; omega)
 obtain ⟨ops3, al2', rfl⟩ : ∃ pre o, ops2 = Array.push pre o := Array.eq_push_of_size_ne_zero (by simp at h0; omega)
 obtain ⟨pre, al', rfl⟩ : ∃ pre o, ops3 = Array.push pre o := Array.eq_push_of_size_ne_zero (by simp at h0; omega)
 simp only [Array.pop_push] at *
 rw [Array.back?_push] at hal hal2
 injection hal with hal
 injection hal2 with hal2
 subst hal hal2
 have hav : AvOK P (pre.push al') d := fun i x hx hd => by
  rw [Array.getElem?_push] at hx
  split at hx
  ·injection hx with hx; subst hx; exact ⟨zs, t, hz⟩
  ·have := Array.all_eq_true_iff_forall_mem.1 hdst x (Array.mem_of_getElem? hx)
   simp at this
   exact absurd hd this
 have h1 := wpAnyE_float (P := P) (Q := FloatV w.heap.size d2 d zs t (LastQ P (((pre.push al').push al2').push st2) ((pre.push al').push al2').size (LastQ P ((((pre.push al').push al2').push st2).push st) (((pre.push al').push al2').push st2).size Q))) (S := S) (t := t) (zs := zs) (B0 := w.heap.size) hst hF hz (fun c a w v h => hQ c a w d v h) pre.size (Array.replicate pre.size false) a w.drew (by simp) (Nat.le_refl _) hS (h hS)
 rw [rep_push] at h1
 have h2 := wpAnyE_floatV (P := P) (Q := LastQ P (((pre.push al').push al2').push st2) ((pre.push al').push al2').size (LastQ P ((((pre.push al').push al2').push st2).push st) (((pre.push al').push al2').push st2).size Q)) (S := S) (t := t) (zs := zs) (B0 := w.heap.size) hst hF2 hav hz2 (fun c a w v h => hQ c a w d2 v h) (pre.size + 1) (Array.replicate (pre.size + 1) false) a w.drew (by simp) (Nat.le_refl _) hS hv h1
 rw [rep_push] at h2
 have h3 := wpAny_last hB2 (pre.size + 1 + 1) (Array.replicate (pre.size + 1 + 1) false) a w.drew (by simp) (clL_none _) (by
  have := wpAny_of_E _ _ _ _ h2
  simpa using this)
 rw [rep_push] at h3
 have h4 := wpAny_last hB (pre.size + 1 + 1 + 1) (Array.replicate (pre.size + 1 + 1 + 1) false) a w.drew (by simp) (clL_none _) (by simpa using h3)
 rw [rep_push] at h4
 simpa using h4
end
end Go.Proofs.YtolkchkedieppaaGreat

/- A region that draws its order, where an extract may run behind a store that does not wait for it: it may be taken ahead. -/
namespace Go.Proofs.YtolkchkedieppaaGreat
open Go Go.RowKit
/-- operation t waiting for x as well, x for what binds it alone -/
def wop (t x j : Nat) (o : Oper) : Oper := if j = t then { o with after := o.after.push ⟨x, .data⟩ } else if j = x then { o with after := (o.after.toList.filter (Region.binds .any)).toArray } else o
def waitsL (t x : Nat) : Nat → List Oper → List Oper
 | _, [] => []
 | j, o :: l => wop t x j o :: waitsL t x (j + 1) l
def waitsX (ops : Array Oper) (t x : Nat) : Array Oper := (waitsL t x 0 ops.toList).toArray
theorem waitsL_get (t x : Nat) : ∀ (l : List Oper) (j i : Nat), (waitsL t x j l)[i]? = l[i]?.map (wop t x (j + i))
 | [], _, _ => by simp [waitsL]
 | o :: l, j, 0 => by simp [waitsL]
 | o :: l, j, i + 1 => by simp only [waitsL, List.getElem?_cons_succ]; rw [waitsL_get t x l (j + 1) i, show j + 1 + i = j + (i + 1) by omega]
theorem waitsL_len (t x : Nat) : ∀ (l : List Oper) (j : Nat), (waitsL t x j l).length = l.length
 | [], _ => rfl
 | o :: l, j => by simp only [waitsL, List.length_cons, waitsL_len t x l (j + 1)]
/-- what an operation waits for, listed -/
def doneBy (ot : Oper) (n : Nat) : Array Bool := ((List.range n).map (fun j => ot.after.any (fun e => Region.binds .any e && decide (e.on = j)))).toArray
/-- x is an extract that nothing else meddles with; what it waits for, t waits for too -/
def waitsB (ops : Array Oper) (t x : Nat) : Bool :=
 decide (t ≠ x) && decide (x < ops.size) && decide (t < ops.size) && Region.noSelect ops &&
 (match ops[x]? with | some ox => (match ox.op with | .extract _ _ => true | _ => false) && ox.guard.isNone && ox.dst.isSome &&
   (match ops[t]? with | some ot => Region.free .any ops (doneBy ot ops.size) x && ox.after.all (fun e => !Region.binds .any e || ot.after.any (fun e2 => Region.binds .any e2 && decide (e2.on = e.on))) | none => false) | none => false)
section
variable {P : Program} {ops : Array Oper} {Q : Exit → Act → World → Prop} {t x : Nat}
theorem waitsX_some (j : Nat) (o : Oper) (h : ops[j]? = some o) : (waitsX ops t x)[j]? = some (wop t x j o) := by
 unfold waitsX
 rw [List.getElem?_toArray, waitsL_get, Array.getElem?_toList, h]; simp
theorem waitsX_none (j : Nat) (h : ops[j]? = none) : (waitsX ops t x)[j]? = none := by
 unfold waitsX
 rw [List.getElem?_toArray, waitsL_get, Array.getElem?_toList, h]; rfl
theorem waitsX_size : (waitsX ops t x).size = ops.size := by unfold waitsX; simp [waitsL_len]
theorem wop_cases (j : Nat) (o : Oper) : wop t x j o = { o with after := o.after.push ⟨x, .data⟩ } ∧ j = t ∨ wop t x j o = { o with after := (o.after.toList.filter (Region.binds .any)).toArray } ∧ j ≠ t ∨ wop t x j o = o ∧ j ≠ t := by
 unfold wop
 by_cases e : j = t
 ·rw [if_pos e]; exact .inl ⟨rfl, e⟩
 ·rw [if_neg e]
  by_cases e2 : j = x
  ·rw [if_pos e2]; exact .inr (.inl ⟨rfl, e⟩)
  ·rw [if_neg e2]; exact .inr (.inr ⟨rfl, e⟩)
theorem yielded_waits (T : Array Value) (j : Nat) : yielded (waitsX ops t x) T j = yielded ops T j := by
 unfold yielded
 cases ho : ops[j]? with
 | none => rw [waitsX_none j ho]
 | some o =>
  rw [waitsX_some j o ho]
  rcases wop_cases (t := t) (x := x) j o with ⟨e, _⟩ | ⟨e, _⟩ | ⟨e, _⟩ <;> rw [e] <;> rfl
theorem wpOp_waits {i : Nat} {K : Act → World → Prop} {a : Act} {w : World} (h : wpOp P (waitsX ops t x) Q i K a w) : wpOp P ops Q i K a w := by
 have hy : yielded (waitsX ops t x) a.tmps = yielded ops a.tmps := funext (fun j => yielded_waits _ j)
 unfold wpOp at *
 rw [hy] at h
 cases ho : ops[i]? with
 | none => rw [waitsX_none i ho] at h; exact h
 | some o =>
  rw [waitsX_some i o ho] at h
  rcases wop_cases (t := t) (x := x) i o with ⟨e, _⟩ | ⟨e, _⟩ | ⟨e, _⟩ <;> rw [e] at h <;> exact h
theorem ready_waits {L : Array Bool} (j : Nat) : j ∈ Region.ready .any (waitsX ops t x) L ↔ j ∈ Region.ready .any ops L ∧ (j = t → L.getD x false = true) := by
 rw [mem_ready, mem_ready]
 constructor
 ·rintro ⟨h0, o', ho', h⟩
  cases ho : ops[j]? with
  | none => rw [waitsX_none j ho] at ho'; cases ho'
  | some o =>
   rw [waitsX_some j o ho] at ho'
   injection ho' with ho'
   rcases wop_cases (t := t) (x := x) j o with ⟨e, e2⟩ | ⟨e, e2⟩ | ⟨e, e2⟩ <;> rw [e] at ho' <;> subst ho'
   ·simp only [Array.mem_push] at h
    exact ⟨⟨h0, o, rfl, fun e he hb => h e (.inl he) hb⟩, fun _ => h ⟨x, .data⟩ (.inr rfl) rfl⟩
   ·simp only [List.mem_toArray, List.mem_filter, Array.mem_toList_iff] at h
    exact ⟨⟨h0, o, rfl, fun e he hb => h e ⟨he, hb⟩ hb⟩, fun e3 => absurd e3 e2⟩
   ·exact ⟨⟨h0, _, rfl, h⟩, fun e3 => absurd e3 e2⟩
 ·rintro ⟨⟨h0, o, ho, h⟩, hx⟩
  refine ⟨h0, _, waitsX_some j o ho, ?_⟩
  rcases wop_cases (t := t) (x := x) j o with ⟨e, e2⟩ | ⟨e, e2⟩ | ⟨e, e2⟩ <;> rw [e]
  ·simp only [Array.mem_push]
   rintro e3 (he | rfl) hb
   ·exact h e3 he hb
   ·exact hx e2
  ·simp only [List.mem_toArray, List.mem_filter, Array.mem_toList_iff]
   exact fun e3 he hb => h e3 he.1 hb
  ·exact h
/-- an extract yields in every world, or nothing is shown of it -/
theorem extract_yields {o : Oper} {u : Operand} {k : Nat} (ho : o.op = .extract u k) (hg : o.guard = none) {K : Act → World → Prop} {a : Act} {w : World} (h : o.wp P a w K Q ∨ (o.asks P a w ∧ LetsOut Q)) :
  ∃ v, Yields P ops o v a ∧ K (a.put o.dst v) w := by
 have hw : Region.wanted o (yielded ops a.tmps) = true := by unfold Region.wanted; rw [hg]
 have hrun : (∃ v, execOp a.eval o = Sem.pure (.value v)) ∨ ∃ s, execOp a.eval o = Sem.halt (.stuck s) := by
  unfold execOp
  rw [ho]
  simp only [Instr.extract]
  split
  ·split
   ·exact .inl ⟨_, rfl⟩
   ·exact .inr ⟨_, rfl⟩
  ·exact .inr ⟨_, rfl⟩
 rcases hrun with ⟨v, hv⟩ | ⟨s, hs⟩
 ·have hr : ∀ w, (execOp a.eval o).run P w = .ok (.value v) w := fun w => by rw [hv]; rfl
  refine ⟨v, .inl ⟨hw, hr⟩, ?_⟩
  rcases h with h | ⟨h, _⟩
  ·unfold Oper.wp at h
   rw [hr] at h
   exact h
  ·unfold Oper.asks at h
   rw [hv] at h
   have h1 := h.1
   simp [Sem.runT] at h1
 ·rcases h with h | ⟨h, _⟩
  ·unfold Oper.wp at h
   rw [hs] at h
   exact h.elim
  ·unfold Oper.asks at h
   rw [hs] at h
   have h1 := h.1
   simp [Sem.runT] at h1
theorem waitsB_spec (h : waitsB ops t x = true) : t ≠ x ∧ x < ops.size ∧ t < ops.size ∧ Region.noSelect ops = true ∧
  ∃ ox u k, ops[x]? = some ox ∧ ox.op = .extract u k ∧ ox.guard = none ∧ ∃ ot, ops[t]? = some ot ∧ Region.free .any ops (doneBy ot ops.size) x = true ∧ ∀ e ∈ ox.after, Region.binds .any e = true → ∃ e2 ∈ ot.after, Region.binds .any e2 = true ∧ e2.on = e.on := by
 unfold waitsB at h
 simp only [Bool.and_eq_true, decide_eq_true_eq] at h
 obtain ⟨⟨⟨⟨h1, h2⟩, h3⟩, h4⟩, h6⟩ := h
 refine ⟨h1, h2, h3, h4, ?_⟩
 split at h6
 ·rename_i ox hox
  simp only [Bool.and_eq_true] at h6
  obtain ⟨⟨⟨k1, k2⟩, k3⟩, k4⟩ := h6
  split at k1
  ·rename_i u k hop
   split at k4
   ·rename_i ot hot
    rw [Bool.and_eq_true] at k4
    refine ⟨ox, u, k, hox, hop, by simpa using k2, ot, hot, k4.1, fun e he hb => ?_⟩
    have := Array.all_eq_true_iff_forall_mem.1 k4.2 e he
    simp only [hb, Bool.not_true, Bool.false_or] at this
    obtain ⟨e2, he2, hh⟩ := Array.any_eq_true'.1 this
    simp only [Bool.and_eq_true, decide_eq_true_eq] at hh
    exact ⟨e2, he2, hh.1, hh.2⟩
   ·cases k4
  ·cases k1
 ·cases h6
theorem wpAny_waits (hB : waitsB ops t x = true) (hQ : ∀ c a w d v, Q (.panic c) (a.put d v) w → Q (.panic c) a w) :
  ∀ (f : Nat) (L : Array Bool) (a : Act) (w : World), L.size = ops.size → wpAny P .any (waitsX ops t x) Q f L a w → wpAny P .any ops Q f L a w := by
 obtain ⟨htx, hxs, hts, hsel, ox, u, k, hox, hop, hg, ot, hot, hfree, hed⟩ := waitsB_spec hB
 -- t is ready, but for x: then x is
 have hxr : ∀ (L : Array Bool), L.size = ops.size → t ∈ Region.ready .any ops L → ¬ L.getD x false = true → x ∈ Region.ready .any ops L := fun L hL ht hn => by
  obtain ⟨_, o, ho, hall⟩ := mem_ready.1 ht
  rw [hot] at ho; injection ho with ho; subst ho
  refine mem_ready.2 ⟨?_, ox, hox, fun e he hb => ?_⟩
  ·rw [getD_in L x (by omega) true false]; simpa using hn
  ·obtain ⟨e2, he2, hb2, heq⟩ := hed e he hb
   rw [← heq]; exact hall e2 he2 hb2
 intro f
 induction f with
 | zero =>
  intro L a w hL h
  refine ⟨List.eq_nil_iff_forall_not_mem.2 (fun j hj => ?_), h.2⟩
  have hno : ∀ i, i ∉ Region.ready .any (waitsX ops t x) L := fun i hi => by rw [h.1] at hi; cases hi
  by_cases e : j = t ∧ ¬ L.getD x false = true
  ·obtain ⟨rfl, e2⟩ := e
   exact hno x ((ready_waits x).2 ⟨hxr L hL hj e2, fun e3 => absurd e3.symm htx⟩)
  ·exact hno j ((ready_waits j).2 ⟨hj, fun e2 => Decidable.byContradiction (fun e3 => e ⟨e2, e3⟩)⟩)
 | succ f ih =>
  intro L a w hL h
  by_cases e : t ∈ Region.ready .any ops L ∧ ¬ L.getD x false = true
  ·have hx := hxr L hL e.1 e.2
   have h1 := h.2 x ((ready_waits x).2 ⟨hx, fun e3 => absurd e3.symm htx⟩)
   have h2 := wpOp_waits h1
   have hw : Region.wanted ox (yielded ops a.tmps) = true := by unfold Region.wanted; rw [hg]
   unfold wpOp at h2
   simp only [hox, hw, if_true] at h2
   obtain ⟨v, hy, hK⟩ := extract_yields (ops := ops) hop hg h2
   refine wpAny_first hox (Region.noSelect_spec hsel) (fun c a w hq => hQ c a w _ _ hq) f L a w (fun j oj hj hne hun hno => ?_) hx hy (ih _ _ _ (by simpa using hL) hK)
   have hj2 : j < ops.size := (Array.getElem?_eq_some_iff.1 hj).1
   refine Region.free_spec hox hfree j oj hj hne ?_ hno
   have hd : (doneBy ot ops.size).getD j true = ot.after.any (fun e => Region.binds .any e && decide (e.on = j)) := by simp [doneBy, Array.getD, hj2]
   rw [hd]
   rcases hany : ot.after.any (fun e => Region.binds .any e && decide (e.on = j)) with _ | _
   ·rfl
   ·obtain ⟨e2, he2, hh⟩ := Array.any_eq_true'.1 hany
    simp only [Bool.and_eq_true, decide_eq_true_eq] at hh
    obtain ⟨_, o, ho, hall⟩ := mem_ready.1 e.1
    rw [hot] at ho; injection ho with ho; subst ho
    have h9 := hall e2 he2 hh.1
    rw [hh.2] at h9
    rw [getD_in L j (by omega) true false, h9] at hun
    cases hun
  ·refine ⟨fun h0 => h.1 (List.eq_nil_iff_forall_not_mem.2 (fun j hj => ?_)), fun j hj => ?_⟩
   ·have := ((ready_waits j).1 hj).1
    rw [h0] at this; cases this
   ·have hj' := (ready_waits (t := t) (x := x) j).2 ⟨hj, fun e2 => Decidable.byContradiction (fun e3 => e ⟨e2 ▸ hj, e3⟩)⟩
    exact wpOp_mono (fun a2 w2 h3 => ih _ _ _ (by simpa using hL) h3) (wpOp_waits (h.2 j hj'))
/-- two variables, as wp_region_box2 has them, where an extract is taken ahead -/
theorem wp_region_box2x {S : World → Prop} {al al2 : Oper} {d d2 : Tmp} {zs : Array Value} {ty : TypeId} {id : Nat} {a : Act} {w : World} (t x : Nat) (hX : waitsB ops t x = true) (hQX : ∀ c a w d v, Q (.panic c) (a.put d v) w → Q (.panic c) a w) (hst : StaysB S) (hm : P.follows .mixedOrders = true)
  (hB : (decide (3 < (waitsX ops t x).size) && lastB (waitsX ops t x) && lastB (waitsX ops t x).pop && floatB (waitsX ops t x).pop.pop.pop al2 d2 && floatB (waitsX ops t x).pop.pop.pop.pop al d) = true) (hal : (waitsX ops t x).pop.pop.pop.back? = some al) (hal2 : (waitsX ops t x).pop.pop.back? = some al2)
  (hz : ∀ (a : Act) (w : World), (execOp a.eval al).run P w = .ok (.value (.pointer (some ⟨w.heap.size, 0, none⟩))) (w.alloc (.cells zs ty)))
  (hz2 : ∀ (a : Act) (w : World), (execOp a.eval al2).run P w = .ok (.value (.pointer (some ⟨w.heap.size, 0, none⟩))) (w.alloc (.cells zs ty)))
  (hdst : (waitsX ops t x).pop.pop.pop.pop.all (fun x => decide (x.dst ≠ some d)) = true)
  (hQ : ∀ c a w d v, Q (.panic c) a w → Q (.panic c) (a.put (some d) v) w) (hS : S w.drew) (hv : ∀ z, a.tmps[d]? = some (.pointer (some ⟨z, 0, none⟩)) → z < w.heap.size) {ops' : Array Oper} (hops : waitsX ops t x = ops')
  (h : S w.drew → wpAnyE P ops'.pop.pop.pop.pop (FloatQ w.heap.size d zs ty (FloatV w.heap.size d2 d zs ty (LastQ P ops'.pop ops'.pop.pop.size (LastQ P ops' ops'.pop.size Q)))) S ops'.pop.pop.pop.pop.size (Array.replicate ops'.pop.pop.pop.pop.size false) a w.drew) : (Code.region id ops true).wp P Q a w := by
 refine wp_region_any hm ?_
 refine wpAny_waits hX hQX _ _ _ _ (by simp) ?_
 rw [← waitsX_size (ops := ops) (t := t) (x := x), hops]
 rw [hops] at hB hal hal2 hdst
 exact wp_box2_any hst hm hB hal hal2 hz hz2 hdst hQ hS hv h
end
end Go.Proofs.YtolkchkedieppaaGreat
