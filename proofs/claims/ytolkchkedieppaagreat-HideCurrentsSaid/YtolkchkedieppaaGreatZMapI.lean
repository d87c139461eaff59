/- A map of the call's own with whole numbers as keys: look-ups, and stores of new keys. -/
import Derived.Test.YtolkchkedieppaaGreatZQVa
import Derived.Test.YtolkchkedieppaaGreatZLin1
import Derived.MapKept
set_option linter.unusedVariables false
set_option linter.unusedSimpArgs false
namespace Go.Proofs.YtolkchkedieppaaGreat
open Go.RowKit Go.MapKept
/-- which keys there are -/
def keyB (F : Nat → Option Value) : Nat → Bool := fun k => (F k).isSome
structure MapI (w : World) (r : Nat) (F : Nat → Option Value) : Prop where
 ex : ∃ es clock, w.heap[r]? = some (.map es clock) ∧ (∀ x ∈ es.toList, ∃ k : Nat, x.key = .int .i64 (k : Nat) ∧ F k = some x.val) ∧ (∀ k v, F k = some v → ∃ x ∈ es.toList, x.key = .int .i64 ((k : Nat) : Int))
def setO (F : Nat → Option Value) (k : Nat) (v : Value) : Nat → Option Value := fun j => if j = k then some v else F j
section
variable {P : Program} {w w' : World} {r : Nat} {F : Nat → Option Value} {t kt et : TypeId}
theorem MapI.lt (h : MapI w r F) : r < w.heap.size := by
 obtain ⟨es, clock, hb, _⟩ := h.ex
 exact (Array.getElem?_eq_some_iff.1 hb).1
theorem MapI.of_heap (h : MapI w r F) (e : w'.heap[r]? = w.heap[r]?) : MapI w' r F := by
 obtain ⟨es, clock, hb, h1, h2⟩ := h.ex
 exact ⟨es, clock, e.trans hb, h1, h2⟩
theorem MapI.below {B : Nat} (h : MapI w r F) (hb : Below B w w') (hr : r < B) : MapI w' r F := h.of_heap (hb.block r hr)
theorem MapI.new (w : World) : MapI (w.alloc (.map #[] 0)) w.heap.size (fun _ => none) := ⟨#[], 0, by show (w.heap.push _)[_]? = _; simp, by simp, fun k v h => by cases h⟩
theorem MapI.noCell (h : MapI w r F) {p : Addr} {u : Value} (hc : w.cell? p = some u) : p.block ≠ r := fun e => by
 obtain ⟨es, clock, hb, _⟩ := h.ex
 rw [← e] at hb
 simp [World.cell?, hb] at hc
theorem IsKey_int (k : Int) : IsKey (.int .i64) (.int .i64 k) := by simp [IsKey]
theorem MapI.find (h : MapI w r F) {es : Array MapEntry} {clock : Nat} (hb : w.heap[r]? = some (.map es clock)) (k : Nat) :
  (F k = none ∧ Instr.findNow (.int .i64) (.int .i64 (k : Nat)) es.toList 0 = some none) ∨ ∃ j v, F k = some v ∧ Instr.findNow (.int .i64) (.int .i64 (k : Nat)) es.toList 0 = some (some (j, v)) := by
 obtain ⟨es', clock', hb', h1, h2⟩ := h.ex
 rw [hb] at hb'
 injection hb' with hb'
 injection hb' with e1 e2
 subst e1
 rcases MapKept.findNow_spec (d := .int .i64) (IsKey_int (k : Nat)) es.toList 0 (fun x hx => by obtain ⟨j, e, _⟩ := h1 x hx; rw [e]; exact IsKey_int _) with ⟨f1, f2⟩ | ⟨j, e, f1, f2, f3⟩
 ·left
  refine ⟨?_, f1⟩
  rcases hF : F k with _ | v
  ·rfl
  ·obtain ⟨x, hx, e⟩ := h2 k v hF
   exact absurd e (f2 x hx)
 ·right
  obtain ⟨k2, g1, g2⟩ := h1 e (List.mem_of_getElem? f2)
  rw [f3] at g1
  injection g1 with _ g1
  have : k = k2 := by omega
  subst this
  exact ⟨_, e.val, g2, f1⟩
theorem MapI.look (h : MapI w r F) (hm : P.underlying t = some (.map kt et)) (hk : P.underlying kt = some (.int .i64)) (k : Nat) (v : Value) (hF : F k = some v) (ok : Bool) :
  (Instr.lookup t (.map (some r)) (.int .i64 ((k : Nat) : Int)) ok).run P w = .ok (if ok then .tuple #[v, .bool true] else v) w := by
 obtain ⟨es, clock, hb, _⟩ := h.ex
 rcases h.find hb k with ⟨f1, f2⟩ | ⟨j, v', f1, f2⟩
 ·rw [hF] at f1; cases f1
 ·rw [hF] at f1
  injection f1 with f1
  subst f1
  cases ok <;> simp [Instr.lookup, run_underlying hm, MapKept.run_getObj_map hb, MapKept.run_checkKey hk (IsKey_int _), MapKept.run_findKey hk f2, Result.andThen]
theorem MapI.miss (h : MapI w r F) (hm : P.underlying t = some (.map kt et)) (hk : P.underlying kt = some (.int .i64)) (k : Nat) (z : Value) (hz : (zeroValue et).run P w = .ok z w) (hF : F k = none) (ok : Bool) :
  (Instr.lookup t (.map (some r)) (.int .i64 ((k : Nat) : Int)) ok).run P w = .ok (if ok then .tuple #[z, .bool false] else z) w := by
 obtain ⟨es, clock, hb, _⟩ := h.ex
 rcases h.find hb k with ⟨f1, f2⟩ | ⟨j, v', f1, f2⟩
 ·cases ok <;> simp [Instr.lookup, run_underlying hm, MapKept.run_getObj_map hb, MapKept.run_checkKey hk (IsKey_int _), MapKept.run_findKey hk f2, Result.andThen, hz]
 ·rw [hF] at f1; cases f1
theorem MapI.put (h : MapI w r F) (hm : P.underlying t = some (.map kt et)) (hk : P.underlying kt = some (.int .i64)) (k : Nat) (v : Value) (hF : F k = none) :
  ∃ w', (Instr.mapUpdate t (.map (some r)) (.int .i64 ((k : Nat) : Int)) v).run P w = .ok () w' ∧ MapI w' r (setO F k v) ∧ w.grownBy w' (some r) ∧ w'.heap.size = w.heap.size := by
 obtain ⟨es, clock, hb, h1, h2⟩ := h.ex
 rcases h.find hb k with ⟨f1, f2⟩ | ⟨j, v', f1, f2⟩
 ·refine ⟨{ w with heap := w.heap.setIfInBounds r (.map (es.push { key := .int .i64 ((k : Nat) : Int), val := v, born := clock }) (clock + 1)) }, by simp [Instr.mapUpdate, run_underlying hm, MapKept.run_getObj_map hb, MapKept.run_checkKey hk (IsKey_int _), MapKept.run_findKey hk f2, MapKept.run_setObj_map _ hb, Result.andThen], ⟨_, _, (MapKept.heap_set hb).1, fun x hx => ?_, fun k' v' hF' => ?_⟩, ⟨rfl, rfl, rfl, by simp, fun k' hk' hne => (MapKept.heap_set hb).2 k' (fun e => hne (by rw [e]))⟩, by simp⟩
  ·simp only [Array.toList_push, List.mem_append, List.mem_singleton] at hx
   rcases hx with hx | rfl
   ·obtain ⟨k', e1, e2⟩ := h1 x hx
    refine ⟨k', e1, ?_⟩
    unfold setO
    rw [if_neg (fun e => by rw [e, hF] at e2; cases e2)]; exact e2
   ·exact ⟨k, rfl, by unfold setO; rw [if_pos rfl]⟩
  ·unfold setO at hF'
   simp only [Array.toList_push, List.mem_append, List.mem_singleton]
   by_cases e : k' = k
   ·exact ⟨_, .inr rfl, by rw [e]⟩
   ·rw [if_neg e] at hF'
    obtain ⟨x, hx, e2⟩ := h2 k' v' hF'
    exact ⟨x, .inl hx, e2⟩
 ·rw [hF] at f1; cases f1
end
/-- how many keys there are -/
structure MapN (w : World) (r N : Nat) (F : Nat → Option Value) : Prop where
 m : MapI w r F
 b : ∀ k, keyB F k = true → k < N
 n : ∃ es clock, w.heap[r]? = some (.map es clock) ∧ es.size = cntC (keyB F) N
theorem MapN.new (w : World) (N : Nat) : MapN (w.alloc (.map #[] 0)) w.heap.size N (fun _ => none) :=
 ⟨MapI.new w, fun k h => by simp [keyB] at h, #[], 0, by show (w.heap.push _)[_]? = _; simp, by
  have : ∀ n, cntC (keyB (fun _ => none)) n = 0 := fun n => by
   induction n with
   | zero => rfl
   | succ n ih => simp only [cntC, ih]; simp [keyB]
  rw [this]; rfl⟩
theorem keyB_set (F : Nat → Option Value) (k : Nat) (v : Value) : keyB (setO F k v) = setB (keyB F) k := by
 funext j; unfold keyB setO setB; split
 ·rfl
 ·rfl
theorem MapN.of_heap {w w' : World} {r N : Nat} {F : Nat → Option Value} (h : MapN w r N F) (e : w'.heap[r]? = w.heap[r]?) : MapN w' r N F := by
 obtain ⟨es, clock, hb, hn⟩ := h.n
 exact ⟨h.m.of_heap e, h.b, es, clock, e.trans hb, hn⟩
theorem MapN.below {w w' : World} {r N B : Nat} {F : Nat → Option Value} (h : MapN w r N F) (hb : Below B w w') (hr : r < B) : MapN w' r N F := h.of_heap (hb.block r hr)
theorem MapN.put {P : Program} {w : World} {r N : Nat} {F : Nat → Option Value} {t kt et : TypeId} (h : MapN w r N F) (hm : P.underlying t = some (.map kt et)) (hk : P.underlying kt = some (.int .i64)) (k : Nat) (v : Value) (hF : F k = none) (hkN : k < N) :
  ∃ w', (Instr.mapUpdate t (.map (some r)) (.int .i64 ((k : Nat) : Int)) v).run P w = .ok () w' ∧ MapN w' r N (setO F k v) ∧ w.grownBy w' (some r) ∧ w'.heap.size = w.heap.size := by
 obtain ⟨es, clock, hb, hn⟩ := h.n
 rcases h.m.find hb k with ⟨f1, f2⟩ | ⟨j, v', f1, f2⟩
 ·obtain ⟨w', hr, h1, h2, h3⟩ := h.m.put hm hk k v hF
  refine ⟨w', hr, ⟨h1, fun k' hk' => ?_, es.push { key := .int .i64 ((k : Nat) : Int), val := v, born := clock }, clock + 1, ?_, ?_⟩, h2, h3⟩
  ·rw [keyB_set] at hk'
   unfold setB at hk'
   by_cases e : k' = k
   ·rw [e]; exact hkN
   ·rw [if_neg e] at hk'; exact h.b k' hk'
  ·simp [Instr.mapUpdate, run_underlying hm, MapKept.run_getObj_map hb, MapKept.run_checkKey hk (IsKey_int _), MapKept.run_findKey hk f2, MapKept.run_setObj_map _ hb, Result.andThen] at hr
   rw [← hr]
   exact (MapKept.heap_set hb).1
  ·rw [Array.size_push, hn, keyB_set, cntC_set (keyB F) k (by unfold keyB; rw [hF]; rfl) N hkN]
 ·rw [hF] at f1; cases f1
theorem MapN.len {P : Program} {w : World} {r N : Nat} {F : Nat → Option Value} {t kt et ty : TypeId} (h : MapN w r N F) (hm : P.underlying t = some (.map kt et)) :
  (Builtin.len_ #[t] ty #[.map (some r)]).run P w = .ok (.int .i64 (cntC (keyB F) N : Nat)) w := by
 obtain ⟨es, clock, hb, hn⟩ := h.n
 rw [← hn]
 simp [Builtin.len_, run_underlying hm, MapKept.run_getObj_map hb, Result.andThen, goInt]
/-- numbers of the reference beside a map's block -/
theorem ints_map {w w' : World} {r : Nat} {F : Nat → Option Value} {v : Value} {n : Nat} {f : Nat → Int} (h : Ints w v n f) (hm : MapI w r F) (hg : w.grownBy w' (some r)) : Ints w' v n f := by
 obtain ⟨a, b, o, c, rfl, hs⟩ := h
 refine ⟨a, b, o, c, rfl, hs.cap, hs.at_, fun h0 => Nat.lt_of_lt_of_le (hs.lt h0) hg.size, fun i hi => ?_, hs.nc⟩
 have hc := hs.cell i hi
 have hne : b ≠ r := hm.noCell hc
 rw [World.cell?_of_block (hg.block b (hs.lt (by omega)) (fun e => hne (Option.some.inj e)))]
 exact hc
theorem zis_map {w w' : World} {r : Nat} {F : Nat → Option Value} {v : Value} {z : Int} {m : Nat} (h : ZIs w v z m) (hm : MapI w r F) (hg : w.grownBy w' (some r)) : ZIs w' v z m := by
 obtain ⟨u, e, h1, h2⟩ := h
 exact ⟨u, e, ints_map h1 hm hg, h2⟩
theorem qis_map {w w' : World} {r : Nat} {F : Nat → Option Value} {v : Value} {n d : Int} {m : Nat} (h : QIs w v n d m) (hm : MapI w r F) (hg : w.grownBy w' (some r)) : QIs w' v n d m := by
 obtain ⟨s1, u1, s2, u2, h0, h1, h2, h3⟩ := h
 exact ⟨s1, u1, s2, u2, h0, zis_map h1 hm hg, zis_map h2 hm hg, h3⟩
theorem QIs.tight {w : World} {v : Value} {n d : Int} {m k : Nat} (h : QIs w v n d m) (h1 : nd n.natAbs ≤ k) (h2 : nd d.natAbs ≤ k) : QIs w v n d k := by
 obtain ⟨s1, u1, s2, u2, h0, ⟨x, e1, g1, _⟩, ⟨y, e2, g2, _⟩, h3⟩ := h
 exact ⟨s1, u1, s2, u2, h0, ⟨x, e1, g1, h1⟩, ⟨y, e2, g2, h2⟩, h3⟩
end Go.Proofs.YtolkchkedieppaaGreat
