/- append onto a row of the call's own that holds no integers: the reference's numbers are kept. -/
import Derived.Test.YtgmopcncbpdniaaGreatHPlainC
import Derived.Test.YtgmopcncbpdniaaGreatHBig18
import Derived.Maps.AppendAt
import Derived.Laws.Rows
import Derived.RegionTactic
import Derived.Test.YtgmopcncbpdniaaGreatHPlainL
import Derived.Deep.DeepCutAuto
import Derived.Deep.CutBlock
set_option linter.unusedVariables false
set_option linter.unusedSimpArgs false
namespace Go.Proofs.YtgmopcncbpdniaaGreat
open Go.RowKit
/-- no cell of v's own block is an integer -/
def KindZ (w : World) (v : Value) : Prop := ∀ g, v.ownBlock = some g → ∀ o x, w.cell? ⟨g, o, none⟩ = some x → NoInt x
theorem KindZ.below {w w' : World} {v : Value} {B : Nat} (h : KindZ w v) (hb : Below B w w') (hl : ∀ g, v.ownBlock = some g → g < B) : KindZ w' v := fun g hg o x hx => by
 rw [hb.cell (p := ⟨g, o, none⟩) (hl g hg)] at hx
 exact h g hg o x hx
/-- a number is kept by what writes into such a row alone -/
theorem dg_keepz {w w' : World} {u v : Value} {x : Nat} (h : Dg w u x) (hk : KindZ w v) (hg : w.grownBy w' v.ownBlock) : Dg w' u x := by
 obtain ⟨a, b, o, c, rfl, hs⟩ := h
 refine ⟨a, b, o, c, rfl, ⟨hs.cap, hs.at_, fun q => Nat.lt_of_lt_of_le (hs.lt q) hg.size, fun i hi => ?_, hs.nc⟩⟩
 have hb := hs.lt (by omega)
 have hc := hs.cell i hi
 rw [← hc]
 unfold World.cell?
 rw [hg.block b hb (fun e => hk b e.symm _ _ hc _ _ rfl)]
theorem ZIs.keep {w w' : World} {u v : Value} {z : Int} {m : Nat} (h : ZIs w u z m) (hk : KindZ w v) (hg : w.grownBy w' v.ownBlock) : ZIs w' u z m := by
 obtain ⟨x, h1, h2, h3⟩ := h
 exact ⟨x, h1, dg_keepz h2 hk hg, h3⟩
theorem QIs.keep {w w' : World} {u v : Value} {n d : Int} {m : Nat} (h : QIs w u n d m) (hk : KindZ w v) (hg : w.grownBy w' v.ownBlock) : QIs w' u n d m := by
 obtain ⟨s1, u1, s2, u2, h0, h1, h2, h3⟩ := h
 exact ⟨s1, u1, s2, u2, h0, h1.keep hk hg, h2.keep hk hg, h3⟩
theorem noInt_zero {z : Array Value} {n : Nat} (hz : ∀ u ∈ z.toList, NoInt u) (h0 : 0 < z.size) : ∀ u ∈ (Builtin.zeroCells z n).toList, NoInt u := fun u hu => by
 unfold Builtin.zeroCells at hu
 simp at hu
 obtain ⟨a, ha, rfl⟩ := hu
 have hlt : a % z.size < z.size := Nat.mod_lt _ h0
 rw [getElem!_pos z (a % z.size) hlt]
 exact hz _ (by simp)
section
variable {P : Program} {w : World}
theorem run_append_kindz (base : Nat) (t ty e : TypeId) (i : TypeInfo) (z : Value) (size bytes : Nat) (ht : P.underlying t = some (.slice e)) (hi : P.info? e = some i) (hz : i.zero = some z)
  (hsize : i.size = size) (hby : i.bytes = bytes) (hzs : z.cells.size = size) (hsz : 0 < size)
  (v : Value) (n : Nat) (xs : List Value) (hown : w.ownsRow base e size v n xs) (hkind : KindZ w v) (hzk : ∀ u ∈ z.cells.toList, NoInt u)
  (a : Addr) (m c : Nat) (news : List Value) (hl : news.length = m * size) (hnews : ∀ j u, news[j]? = some u → w.cell? (a.add j) = some u) (h1 : ∀ u ∈ news, u.oneCell' = true) (hnk : ∀ u ∈ news, NoInt u)
  (h63 : n + m ≤ maxLen) (hbytes : (n + m) * bytes ≤ 140737488355328) (hbase : base ≤ w.heap.size) (hm : 0 < m) :
  ∃ v' w', (Builtin.append_ #[t, t] ty #[v, .slice (some a) m c]).run P w = .ok v' w' ∧ w'.ownsRow base e size v' (n + m) (xs ++ news) ∧ w.grownBy w' v.ownBlock ∧
   (v'.ownBlock = v.ownBlock ∨ v'.ownBlock = some w.heap.size) ∧ KindZ w' v' := by
 obtain ⟨v', w', hr, h2, h3, _, h5⟩ := run_append_own_at (P := P) w base t ty e i z size bytes ht hi hz hsize hby hzs hsz v n xs hown a m c news hl hnews h1 h63 hbytes hbase
 refine ⟨v', w', hr, h2, h3, h5, ?_⟩
 subst hsize
 subst hby
 have hsmall : n + m ≤ 9223372036854775807 := by simp only [maxLen] at h63; omega
 have hnew : ∀ (l : List Value) (cap : Nat), (∀ u ∈ l, NoInt u) → KindZ (w.drew.alloc (.cells (l.toArray ++ Builtin.zeroCells z.cells cap) e)) (.slice (some ⟨w.heap.size, 0, none⟩) (n + m) (cap + (n + m))) := fun l cap hlk g hg o x hx => by
  have : w.heap.size = g := Option.some.inj hg
  subst this
  have hcell : (w.drew.alloc (.cells (l.toArray ++ Builtin.zeroCells z.cells cap) e)).cell? ⟨w.heap.size, o, none⟩ = (l.toArray ++ Builtin.zeroCells z.cells cap)[o]? := cell_of (t := e) (fr := (0, 0)) (heap_alloc_new w.drew _)
  rw [hcell] at hx
  have hmem : x ∈ (l.toArray ++ Builtin.zeroCells z.cells cap).toList := by
   rw [← Array.getElem?_toList] at hx
   exact List.mem_of_getElem? hx
  rw [Array.toList_append] at hmem
  rcases List.mem_append.1 hmem with h | h
  ·exact hlk x (by simpa using h)
  ·exact noInt_zero hzk (by omega) x h
 have hxk : ∀ u ∈ xs, NoInt u := fun u hu => by
  obtain ⟨j, hj, rfl⟩ := List.mem_iff_getElem.1 hu
  rcases hob : v.ownBlock with _ | g
  ·rcases hown.2 with ⟨rfl, rfl⟩ | ⟨g, cap, cur, rfl, _⟩
   ·have := hown.1; omega
   ·cases hob
  ·have hc := hown.cells hob j xs[j] (by simp)
   rw [add_at, Nat.zero_add] at hc
   exact hkind g hob j _ hc
 rcases hown.2 with ⟨rfl, rfl⟩ | ⟨g, cap, cur, rfl, hbg, hg, hnc, hcm, hcs, htake⟩
 ·have hr2 := run_append_nil (P := P) w t ty e i z ht hi hz a m c news hl hnews hm (by omega) (by have hb := hbytes; simp only [Nat.zero_add] at hb; omega)
  rw [hr2] at hr
  injection hr with e1 e2
  subst e1; subst e2
  have h := hnew news (grownCap w m 0 e - m) hnk
  intro g hg o x hx
  exact h g hg o x hx
 ·by_cases hroom : n + m ≤ cap
  ·have hfit : n * i.size + news.length ≤ cur.size := by rw [hl, hcs, ← Nat.add_mul]; exact Nat.mul_le_mul_right _ hroom
   have hr2 := run_append_room (P := P) w t ty e i ht hi g n cap cur hg a m c news hl hnews h1 hroom hfit
   rw [hr2] at hr
   injection hr with e1 e2
   subst e1; subst e2
   intro g' hg' o x hx
   have : g = g' := Option.some.inj hg'
   subst this
   rw [cell_of (setRow_heap w g cur _ e _ hg)] at hx
   have hmem : x ∈ (cur.toList.take (n * i.size) ++ news ++ cur.toList.drop (n * i.size + news.length)) := by
    rw [List.getElem?_toArray] at hx
    exact List.mem_of_getElem? hx
   have hcur : ∀ u ∈ cur.toList, NoInt u := fun u hu => by
    obtain ⟨j, hj, rfl⟩ := List.mem_iff_getElem.1 hu
    refine hkind g rfl j _ ?_
    rw [cell_of hg]
    simp
   rcases List.mem_append.1 hmem with h | h
   ·rcases List.mem_append.1 h with h | h
    ·exact hcur x (List.mem_of_mem_take h)
    ·exact hnk x h
   ·exact hcur x (List.mem_of_mem_drop h)
  ·have holds : ∀ j u, xs[j]? = some u → w.cell? ((⟨g, 0, none⟩ : Addr).add j) = some u := hown.cells (g := g) rfl
   have hr2 := run_append_grow (P := P) w t ty e i z ht hi hz ⟨g, 0, none⟩ n cap xs hown.1 holds a m c news hl hnews (by omega) (by omega) (growslice_fits (by omega) hbytes)
   rw [hr2] at hr
   injection hr with e1 e2
   subst e1; subst e2
   have h := hnew (xs ++ news) (grownCap w (n + m) cap e - (n + m)) (fun u hu => (List.mem_append.1 hu).elim (hxk u) (hnk u))
   intro g' hg' o x hx
   refine h g' hg' o x ?_
   simpa using hx
theorem wpList_append_kindz {ops : Array Oper} {rest : List Oper} {o : Oper} {a : Act} {Q : Exit → Act → World → Prop} (hgd : o.guard = none) (s x : Operand) (t : TypeId)
  (ho : o.op = .call { callee := .builtin .append, args := #[s, x], argTypes := #[t, t] })
  (base : Nat) (e : TypeId) (i : TypeInfo) (z : Value) (size bytes : Nat) (ht : P.underlying t = some (.slice e)) (hi : P.info? e = some i) (hz : i.zero = some z)
  (hsize : i.size = size) (hby : i.bytes = bytes) (hzs : z.cells.size = size) (hsz : 0 < size)
  (v : Value) (n : Nat) (xs : List Value) (hs : a.eval s = v) (hown : w.ownsRow base e size v n xs) (hkind : KindZ w v) (hzk : ∀ u ∈ z.cells.toList, NoInt u)
  (ad : Addr) (m c : Nat) (news : List Value) (hx : a.eval x = .slice (some ad) m c) (hl : news.length = m * size) (hnews : ∀ j u, news[j]? = some u → w.cell? (ad.add j) = some u) (h1 : ∀ u ∈ news, u.oneCell' = true) (hnk : ∀ u ∈ news, NoInt u)
  (h63 : n + m ≤ maxLen) (hbytes : (n + m) * bytes ≤ 140737488355328) (hbase : base ≤ w.heap.size) (hm : 0 < m)
  (h : ∀ v' w', w'.ownsRow base e size v' (n + m) (xs ++ news) → w.grownBy w' v.ownBlock → (v'.ownBlock = v.ownBlock ∨ v'.ownBlock = some w.heap.size) → KindZ w' v' → wpList P ops Q rest (a.put o.dst v') w') : wpList P ops Q (o :: rest) a w := by
 refine wpList_plain hgd fun K hK => ?_
 obtain ⟨v', w', hr, h2, h3, h5, h6⟩ := run_append_kindz (P := P) base t o.type e i z size bytes ht hi hz hsize hby hzs hsz v n xs hown hkind hzk ad m c news hl hnews h1 hnk h63 hbytes hbase hm
 unfold Oper.wp execOp
 simp only [ho, resolve, invoke, builtin, Sem.run_bind, Sem.run_pure, Result.andThen_ok, List.map_toArray, List.map_cons, List.map_nil, hs, hx, hr]
 exact hK _ _ (h v' w' h2 h3 h5 h6)
end
/-- r numbers of the reference, gathered by append -/
structure QRow (w : World) (base : Nat) (v : Value) (r : Nat) (p d : Nat → Int) (K : Nat) (xs : List Value) : Prop where
 kind : KindZ w v
 own : w.ownsRow base 40 4 v r xs
 val : ∀ j, j < r → ∃ s a m c t a2 m2 c2, xs[j * 4]? = some (.bool s) ∧ xs[j * 4 + 1]? = some (.slice a m c) ∧ xs[j * 4 + 2]? = some (.bool t) ∧ xs[j * 4 + 3]? = some (.slice a2 m2 c2) ∧ QIs w (.agg #[.bool s, .slice a m c, .bool t, .slice a2 m2 c2]) (p j) (d j) K
variable {w w' : World} {base r K : Nat} {v : Value} {p d : Nat → Int} {xs : List Value}
theorem QRow.nil (w : World) (base : Nat) (p d : Nat → Int) (K : Nat) (v : Value) (h : w.ownsRow base 40 4 v 0 []) (hk : KindZ w v) : QRow w base v 0 p d K [] := ⟨hk, h, fun j hj => by omega⟩
theorem QRow.below (h : QRow w base v r p d K xs) (hb : Below w.heap.size w w') : QRow w' base v r p d K xs :=
 ⟨h.kind.below hb (fun g hg => (h.own.lt g hg).2), own_kept h.own hb, fun j hj => by
  obtain ⟨s, a, m, c, t, a2, m2, c2, h1, h2, h3, h4, h5⟩ := h.val j hj
  exact ⟨s, a, m, c, t, a2, m2, c2, h1, h2, h3, h4, h5.mono hb (Nat.le_refl _)⟩⟩
theorem QRow.push {v' : Value} {x y : Int} {s t : Bool} {a a2 : Option Addr} {m c m2 c2 : Nat} (h : QRow w base v r p d K xs) (hx : QIs w (.agg #[.bool s, .slice a m c, .bool t, .slice a2 m2 c2]) x y K) (hq : p r = x) (hq2 : d r = y)
  (hgrow : w.grownBy w' v.ownBlock) (hown : w'.ownsRow base 40 4 v' (r + 1) (xs ++ [.bool s, .slice a m c, .bool t, .slice a2 m2 c2])) (hkind : KindZ w' v') : QRow w' base v' (r + 1) p d K (xs ++ [.bool s, .slice a m c, .bool t, .slice a2 m2 c2]) := by
 have hl := h.own.1
 refine ⟨hkind, hown, fun j hj => ?_⟩
 by_cases e : j < r
 ·obtain ⟨s', a', m', c', t', a2', m2', c2', h1, h2, h3, h4, h5⟩ := h.val j e
  exact ⟨s', a', m', c', t', a2', m2', c2', by rw [List.getElem?_append_left (by omega)]; exact h1, by rw [List.getElem?_append_left (by omega)]; exact h2, by rw [List.getElem?_append_left (by omega)]; exact h3, by rw [List.getElem?_append_left (by omega)]; exact h4, h5.keep h.kind hgrow⟩
 ·obtain rfl : j = r := by omega
  refine ⟨s, a, m, c, t, a2, m2, c2, ?_, ?_, ?_, ?_, by rw [hq, hq2]; exact hx.keep h.kind hgrow⟩
  ·rw [List.getElem?_append_right (by omega), hl, Nat.sub_self]; rfl
  ·rw [List.getElem?_append_right (by omega), hl, show j * 4 + 1 - j * 4 = 1 by omega]; rfl
  ·rw [List.getElem?_append_right (by omega), hl, show j * 4 + 2 - j * 4 = 2 by omega]; rfl
  ·rw [List.getElem?_append_right (by omega), hl, show j * 4 + 3 - j * 4 = 3 by omega]; rfl
theorem QRow.alloc (h : QRow w base v r p d K xs) (o : Obj) : QRow (w.alloc o) base v r p d K xs := h.below ((Below.refl w.heap.size w).alloc (Nat.le_refl _) o)
theorem noInt_4 (s t : Bool) (a a2 : Option Addr) (m c m2 c2 : Nat) : ∀ u ∈ [Value.bool s, .slice a m c, .bool t, .slice a2 m2 c2], NoInt u := fun u hu => by
 simp at hu
 rcases hu with rfl | rfl | rfl | rfl <;> exact fun k z h => by cases h
/-- a slice of n numbers of the reference, as read -/
structure QSl (w : World) (v : Value) (n : Nat) (p d : Nat → Int) (K : Nat) : Prop where
 val : ∃ g cap, v = .slice (some ⟨g, 0, none⟩) n cap ∧ n ≤ cap ∧ g < w.heap.size ∧ ∀ j, j < n → ∃ s a m c t a2 m2 c2, w.cell? ⟨g, j * 4, none⟩ = some (.bool s) ∧ w.cell? ⟨g, j * 4 + 1, none⟩ = some (.slice a m c) ∧ w.cell? ⟨g, j * 4 + 2, none⟩ = some (.bool t) ∧ w.cell? ⟨g, j * 4 + 3, none⟩ = some (.slice a2 m2 c2) ∧ QIs w (.agg #[.bool s, .slice a m c, .bool t, .slice a2 m2 c2]) (p j) (d j) K
theorem QRow.sl (h : QRow w base v r p d K xs) (h0 : 0 < r) : QSl w v r p d K := by
 have h1 := h.own
 rcases h1.2 with ⟨_, e⟩ | ⟨g, cap, cur, hv, hbg, hg, hcap, hml, hsz, htk⟩
 ·omega
 ·subst hv
  have hlt : g < w.heap.size := (Array.getElem?_eq_some_iff.1 hg).1
  have hc := h1.cells (g := g) rfl
  refine ⟨g, cap, rfl, by omega, hlt, fun j hj => ?_⟩
  obtain ⟨s', a', m', c', t', a2', m2', c2', k1, k2, k3, k4, k5⟩ := h.val j hj
  have k : ∀ i u, xs[i]? = some u → w.cell? ⟨g, i, none⟩ = some u := fun i u hu => by
   have := hc i u hu
   rw [add_at, Nat.zero_add] at this; exact this
  exact ⟨s', a', m', c', t', a2', m2', c2', k _ _ k1, k _ _ k2, k _ _ k3, k _ _ k4, k5⟩
end Go.Proofs.YtgmopcncbpdniaaGreat

/- append at a step of a region that draws its order: numbers are kept. -/
namespace Go.Proofs.YtgmopcncbpdniaaGreat
open Go.RowKit
section
variable {P : Program} {w : World}
theorem wp_append_kind {o : Oper} {a : Act} {K : Act → World → Prop} {Q : Exit → Act → World → Prop} (s x : Operand) (t : TypeId)
  (ho : o.op = .call { callee := .builtin .append, args := #[s, x], argTypes := #[t, t] })
  (base : Nat) (e : TypeId) (i : TypeInfo) (z : Value) (size bytes : Nat) (ht : P.underlying t = some (.slice e)) (hi : P.info? e = some i) (hz : i.zero = some z)
  (hsize : i.size = size) (hby : i.bytes = bytes) (hzs : z.cells.size = size) (hsz : 0 < size)
  (v : Value) (n : Nat) (xs : List Value) (hs : a.eval s = v) (hown : w.ownsRow base e size v n xs) (hkind : KindB w v) (hzk : ∀ u ∈ z.cells.toList, NoLimb u)
  (ad : Addr) (m c : Nat) (news : List Value) (hx : a.eval x = .slice (some ad) m c) (hl : news.length = m * size) (hnews : ∀ j u, news[j]? = some u → w.cell? (ad.add j) = some u) (h1 : ∀ u ∈ news, u.oneCell' = true) (hnk : ∀ u ∈ news, NoLimb u)
  (h63 : n + m ≤ maxLen) (hbytes : (n + m) * bytes ≤ 140737488355328) (hbase : base ≤ w.heap.size) (hm : 0 < m)
  (h : ∀ v' w', w'.ownsRow base e size v' (n + m) (xs ++ news) → w.grownBy w' v.ownBlock → (v'.ownBlock = v.ownBlock ∨ v'.ownBlock = some w.heap.size) → KindB w' v' → K (a.put o.dst v') w') : o.wp P a w K Q := by
 obtain ⟨v', w', hr, h2, h3, h5, h6⟩ := run_append_kind (P := P) base t o.type e i z size bytes ht hi hz hsize hby hzs hsz v n xs hown hkind hzk ad m c news hl hnews h1 hnk h63 hbytes hbase hm
 unfold Oper.wp execOp
 simp only [ho, resolve, invoke, builtin, Sem.run_bind, Sem.run_pure, Result.andThen_ok, List.map_toArray, List.map_cons, List.map_nil, hs, hx, hr]
 exact h v' w' h2 h3 h5 h6
/-- at a step of a region that draws -/
theorem step_append_kind {ops : Array Oper} {o : Oper} {a : Act} {K : Act → World → Prop} {Q : Exit → Act → World → Prop} {E : Prop} (hgd : o.guard = none) (s x : Operand) (t : TypeId)
  (ho : o.op = .call { callee := .builtin .append, args := #[s, x], argTypes := #[t, t] })
  (base : Nat) (e : TypeId) (i : TypeInfo) (z : Value) (size bytes : Nat) (ht : P.underlying t = some (.slice e)) (hi : P.info? e = some i) (hz : i.zero = some z)
  (hsize : i.size = size) (hby : i.bytes = bytes) (hzs : z.cells.size = size) (hsz : 0 < size)
  (v : Value) (n : Nat) (xs : List Value) (hs : a.eval s = v) (hown : w.ownsRow base e size v n xs) (hkind : KindB w v) (hzk : ∀ u ∈ z.cells.toList, NoLimb u)
  (ad : Addr) (m c : Nat) (news : List Value) (hx : a.eval x = .slice (some ad) m c) (hl : news.length = m * size) (hnews : ∀ j u, news[j]? = some u → w.cell? (ad.add j) = some u) (h1 : ∀ u ∈ news, u.oneCell' = true) (hnk : ∀ u ∈ news, NoLimb u)
  (h63 : n + m ≤ maxLen) (hbytes : (n + m) * bytes ≤ 140737488355328) (hbase : base ≤ w.heap.size) (hm : 0 < m)
  (h : ∀ v' w', w'.ownsRow base e size v' (n + m) (xs ++ news) → w.grownBy w' v.ownBlock → (v'.ownBlock = v.ownBlock ∨ v'.ownBlock = some w.heap.size) → KindB w' v' → K (a.put o.dst v') w') :
  if Region.wanted o (yielded ops a.tmps) = true then Oper.wp P o a w K Q else E := by
 have hw : Region.wanted o (yielded ops a.tmps) = true := by simp [Region.wanted, hgd]
 rw [if_pos hw]
 exact wp_append_kind s x t ho base e i z size bytes ht hi hz hsize hby hzs hsz v n xs hs hown hkind hzk ad m c news hx hl hnews h1 hnk h63 hbytes hbase hm h
theorem wp_append_kindz {o : Oper} {a : Act} {K : Act → World → Prop} {Q : Exit → Act → World → Prop} (s x : Operand) (t : TypeId)
  (ho : o.op = .call { callee := .builtin .append, args := #[s, x], argTypes := #[t, t] })
  (base : Nat) (e : TypeId) (i : TypeInfo) (z : Value) (size bytes : Nat) (ht : P.underlying t = some (.slice e)) (hi : P.info? e = some i) (hz : i.zero = some z)
  (hsize : i.size = size) (hby : i.bytes = bytes) (hzs : z.cells.size = size) (hsz : 0 < size)
  (v : Value) (n : Nat) (xs : List Value) (hs : a.eval s = v) (hown : w.ownsRow base e size v n xs) (hkind : KindZ w v) (hzk : ∀ u ∈ z.cells.toList, NoInt u)
  (ad : Addr) (m c : Nat) (news : List Value) (hx : a.eval x = .slice (some ad) m c) (hl : news.length = m * size) (hnews : ∀ j u, news[j]? = some u → w.cell? (ad.add j) = some u) (h1 : ∀ u ∈ news, u.oneCell' = true) (hnk : ∀ u ∈ news, NoInt u)
  (h63 : n + m ≤ maxLen) (hbytes : (n + m) * bytes ≤ 140737488355328) (hbase : base ≤ w.heap.size) (hm : 0 < m)
  (h : ∀ v' w', w'.ownsRow base e size v' (n + m) (xs ++ news) → w.grownBy w' v.ownBlock → (v'.ownBlock = v.ownBlock ∨ v'.ownBlock = some w.heap.size) → KindZ w' v' → K (a.put o.dst v') w') : o.wp P a w K Q := by
 obtain ⟨v', w', hr, h2, h3, h5, h6⟩ := run_append_kindz (P := P) base t o.type e i z size bytes ht hi hz hsize hby hzs hsz v n xs hown hkind hzk ad m c news hl hnews h1 hnk h63 hbytes hbase hm
 unfold Oper.wp execOp
 simp only [ho, resolve, invoke, builtin, Sem.run_bind, Sem.run_pure, Result.andThen_ok, List.map_toArray, List.map_cons, List.map_nil, hs, hx, hr]
 exact h v' w' h2 h3 h5 h6
/-- at a step of a region that draws -/
theorem step_append_kindz {ops : Array Oper} {o : Oper} {a : Act} {K : Act → World → Prop} {Q : Exit → Act → World → Prop} {E : Prop} (hgd : o.guard = none) (s x : Operand) (t : TypeId)
  (ho : o.op = .call { callee := .builtin .append, args := #[s, x], argTypes := #[t, t] })
  (base : Nat) (e : TypeId) (i : TypeInfo) (z : Value) (size bytes : Nat) (ht : P.underlying t = some (.slice e)) (hi : P.info? e = some i) (hz : i.zero = some z)
  (hsize : i.size = size) (hby : i.bytes = bytes) (hzs : z.cells.size = size) (hsz : 0 < size)
  (v : Value) (n : Nat) (xs : List Value) (hs : a.eval s = v) (hown : w.ownsRow base e size v n xs) (hkind : KindZ w v) (hzk : ∀ u ∈ z.cells.toList, NoInt u)
  (ad : Addr) (m c : Nat) (news : List Value) (hx : a.eval x = .slice (some ad) m c) (hl : news.length = m * size) (hnews : ∀ j u, news[j]? = some u → w.cell? (ad.add j) = some u) (h1 : ∀ u ∈ news, u.oneCell' = true) (hnk : ∀ u ∈ news, NoInt u)
  (h63 : n + m ≤ maxLen) (hbytes : (n + m) * bytes ≤ 140737488355328) (hbase : base ≤ w.heap.size) (hm : 0 < m)
  (h : ∀ v' w', w'.ownsRow base e size v' (n + m) (xs ++ news) → w.grownBy w' v.ownBlock → (v'.ownBlock = v.ownBlock ∨ v'.ownBlock = some w.heap.size) → KindZ w' v' → K (a.put o.dst v') w') :
  if Region.wanted o (yielded ops a.tmps) = true then Oper.wp P o a w K Q else E := by
 have hw : Region.wanted o (yielded ops a.tmps) = true := by simp [Region.wanted, hgd]
 rw [if_pos hw]
 exact wp_append_kindz s x t ho base e i z size bytes ht hi hz hsize hby hzs hsz v n xs hs hown hkind hzk ad m c news hx hl hnews h1 hnk h63 hbytes hbase hm h
end
end Go.Proofs.YtgmopcncbpdniaaGreat

/- Keeps of package debt at any valid market. -/
namespace Go.Proofs.YtgmopcncbpdniaaGreat
open Go.RowKit
attribute [local go_sem ↓] Go.wp_at_zero Go.wp_at_succ
theorem keep_maxD {n : Nat} {cash : Nat → Int} {d : Nat → Nat → Int} {ps : (Nat → Bool) → Nat → Rat} (hR : Rng n cash d) (hn : n ≤ 8) (hd : ∀ i j, 0 ≤ d i j) (hps : PsOK n cash d ps) (q : Nat) : ∀ j, j < n → MaxD (keepP n cash d (PS n cash d ps q) j).num.natAbs ∧ MaxD (keepP n cash d (PS n cash d ps q) j).den := fun j hj => by
 obtain ⟨x, hx⟩ := ps_rdy hps hR hd q
 have h := keep_small hR hn hd (rnd_all hps hR hd q).nc hx.sol j hj
 exact ⟨⟨Nat.lt_of_le_of_lt h.1 bd_keep⟩, ⟨Nat.lt_of_le_of_lt h.2 bd_keep⟩⟩
set_option maxHeartbeats 4000000 in
set_option maxRecDepth 100000 in
theorem keeps_any (vc vd : Value) (n : Nat) (cash : Nat → Int) (m : Nat → Nat) (d : Nat → Nat → Int) (ps : (Nat → Bool) → Nat → Rat) (w : World) (hc : Ints w vc n cash) (hm : Mat w vd n m d) (hD : Debts n m d) (hC : ∀ i, i < n → 0 ≤ cash i ∧ cash i ≤ 1000) (hd : ∀ i j, 0 ≤ d i j) (hps : PsOK n cash d ps) :
  Calls Tryz.prog 22 #[vc, vd] w fun e w' => ∃ q va vk ss, e = .returned (.tuple #[.slice va n vk, .int .i64 0]) ∧ Last n cash d ps q ∧ TxtsOf n (keepP n cash d (PS n cash d ps q)) ss ∧ Sl w' (.slice va n vk) n (fun j => .string (ss j)) ∧ Below w.heap.size w w' := by
 obtain ⟨i0, hi, hz0, hz1, hz2⟩ := info_parts infoR
 have HC := Lib.hid hc
 have HD := Lib.hid hm
 have HR := Lib.hid (rng_of hD hC hd)
 have h0 : 0 < n := hD.1
 have h8 : n ≤ 8 := hD.2.1
 have HDD := Lib.hid hd
 have HPS := Lib.hid hps
 have HDB := Lib.hid hD
 have HCB := Lib.hid hC
 obtain ⟨ca, cb, co, cc, rfl, hcs⟩ := hc
 obtain ⟨da, db, d_o, dc, ra, rb, ro, rc, rfl, hdm⟩ := hm
 clear hcs hdm hD hC hd hps
 go_enter Tryz.func22, Tryz.ntmps22
 go_upto_region 6 with (first
  | (go_at_call 38; (with_reducible refine (read_ok _ _ n cash m d _ HC.out HD.out HDB.out HCB.out).mono ?_); rintro e w1 ⟨b, vt, rfl, hm, hb1⟩; have HM := Lib.hid hm; have KW := Lib.hid hb1; clear hm hb1)
  | (go_at_call 39; (with_reducible refine (rounds_any b n cash d _ _ _ ps _ HM.out h0 h8 HR.out HDD.out HPS.out).mono ?_); rintro e w2 ⟨q, oa, ok, ora, orc, P, rfl, hq1, hq2, hq3, -, hp, hb2⟩; have HL : Hid (Last n cash d ps q) := Lib.hid ⟨hq1, hq2, hq3⟩; have HP := Lib.hid hp; have HM := Lib.hid (HM.out.mono hb2 (Nat.le_refl _)); have KW := Lib.hid (KW.out.trans (hb2.mono KW.out.size)); clear hp hb2 hq1 hq2 hq3))
 have c0 := HM.out.c0
 obtain ⟨wL, rfl⟩ : ∃ wL : World, wL = w2 := ⟨_, rfl⟩
 have VL0 := Lib.hid (Below.refl wL.heap.size wL)
 have BR0 : Hid (BRow wL wL.heap.size (.slice none 0 0) 0 (keepP n cash d (PS n cash d ps q)) 210000 []) := Lib.hid (BRow.nil _ _ _ _)
 go_wp2
 go_loopw [10, 11, 29] (fun v10 v11 v29 wr => ∃ k : Nat, k ≤ n ∧ v29 = .int .i64 (k : Nat) ∧ ∃ va vk xs, v10 = .slice va k vk ∧ Hid (BRow wr wL.heap.size (.slice va k vk) k (keepP n cash d (PS n cash d ps q)) 210000 xs) ∧ Hid (Below wL.heap.size wL wr)) (fun _ _ v29 _ => n - (intOf v29).toNat)
 case atStart => exact ⟨0, by omega, rfl, none, 0, [], rfl, BR0, VL0⟩
 case round =>
  clear VL0 BR0
  obtain ⟨k, hk, rfl, va, vk, xs, rfl, BR, VL⟩ := hrel
  by_cases h : k < n
  ·have ixr := fun W => rowIx P n n k h W
   obtain ⟨sx, ax, nx, cx, ax2, nx2, cx2, PX, KX⟩ := HP.out.cell k h
   have PX := Lib.hid PX
   have KX := Lib.hid (KX trivial)
   have keepR : Hid (∀ w', Below wL.heap.size wL w' → w'.cell? ⟨P, k * 4, none⟩ = some (.bool sx) ∧ w'.cell? ⟨P, k * 4 + 1, none⟩ = some (.slice ax nx cx) ∧ w'.cell? ⟨P, k * 4 + 2, none⟩ = some (.bool false) ∧ w'.cell? ⟨P, k * 4 + 3, none⟩ = some (.slice ax2 nx2 cx2)) :=
    Lib.hid (fun w' hb => by obtain ⟨e0, e1, e2, e3, _⟩ := PX.out.below hb PX.out.lt; exact ⟨e0, e1, e2, e3⟩)
   have HCS : Hid (0 ≤ cash k ∧ cash k ≤ 100000) := Lib.hid (by have := HR.out.csh k h; omega)
   have HDS : Hid (∀ j, j < n → 0 ≤ d j k ∧ d j k ≤ 1000 ∧ 0 ≤ sumF (d j) n ∧ sumF (d j) n ≤ 100000) := Lib.hid (fun j hj => ⟨(HR.out.deb j k hj h).1, (HR.out.deb j k hj h).2, (HR.out.tot j hj).1, (HR.out.tot j hj).2⟩)
   have VL0 := VL
   have VL := Lib.hid VL.out.drew
   have BR := Lib.hid (BR.out.below (Below.refl wr.heap.size wr).drew)
   go_wp2
   go_region_held3 (fun w' => w'.cell? ⟨P, k * 4, none⟩ = some (.bool sx) ∧ w'.cell? ⟨P, k * 4 + 1, none⟩ = some (.slice ax nx cx) ∧ w'.cell? ⟨P, k * 4 + 2, none⟩ = some (.bool false) ∧ w'.cell? ⟨P, k * 4 + 3, none⟩ = some (.slice ax2 nx2 cx2))
    (first | (with_reducible exact keepR.out _ VL0.out) | (with_reducible exact keepR.out _ VL.out) | (with_reducible exact keepR.out _ VLA.out))
    (first
    | (go_at_call 51; (with_reducible refine (has_any b n k cash d _ _ _ _ (HM.out.mono VL.out (Nat.le_refl _)) h h8 HDS.out HCS.out P 0 n (PS n cash d ps q) 200 (HP.out.below VL.out (Nat.le_refl _)).rats (by omega) (by omega)).mono ?_); rintro e wa ⟨ra', rfl, hra, hba⟩; obtain ⟨sa, aa, na', ea, ba, ma, da, rfl, KH⟩ := hra.shape; clear hra; have BR := Lib.hid (BR.out.below hba); have VL := Lib.hid (VL.out.trans (hba.mono VL.out.size)))
    | (go_at_call 52; (with_reducible refine (rat_sub _ _ (hasQ n cash d (PS n cash d ps q) k) (PS n cash d ps q k) (512 * (200 + 1)) _ KH.out ((KX.out.mono VL.out (Nat.le_refl _)).le (by omega)) (by omega) (by omega)).mono ?_); rintro e wb ⟨rb', rfl, hrb, hbb⟩; obtain ⟨s6, a6, n6, c6, b6, m6, d6, rfl, KS⟩ := hrb.shape; clear hrb; have BR := Lib.hid (BR.out.below hbb); have VL := Lib.hid (VL.out.trans (hbb.mono VL.out.size)); have VLA := Lib.hid (VL.out.alloc VL.out.size (.cells #[.bool s6, .slice a6 n6 c6, .bool false, .slice b6 m6 d6] 92)); have BRA := Lib.hid (BR.out.alloc (.cells #[.bool s6, .slice a6 n6 c6, .bool false, .slice b6 m6 d6] 92)); have NEW := Lib.hid (own4_rd (own4_new wb wb.heap.size rfl (.bool s6) (.slice a6 n6 c6) (.bool false) (.slice b6 m6 d6) 92)); have KSA := Lib.hid (KS.out.mono (boxes1 wb (.cells #[.bool s6, .slice a6 n6 c6, .bool false, .slice b6 m6 d6] 92)) (Nat.le_refl _)); have HA3 := Lib.hid VLA.out.size)
    | ((refine step_append_kind (by rfl) _ _ _ (by rfl) wL.heap.size 92 i0 _ 4 64 Tryz.underlying73 hi hz0 hz1 hz2 rfl (by decide) (.slice va k vk) k xs (by rfl) BRA.out.own BRA.out.kind (noLimb_4 _ _ _ _ _ _ _ _) ⟨wb.heap.size, 0, none⟩ 1 1 [.bool s6, .slice a6 n6 c6, .bool false, .slice b6 m6 d6] (by rfl) (by rfl) (cells4' NEW.out) (one4' _ _ _ _ rfl rfl rfl rfl) (noLimb_4 _ _ _ _ _ _ _ _) (by unfold maxLen; omega) (by omega) HA3.out (by omega) ?_; intro v' w7 hown hgrow hblk hkind; obtain ⟨va', vk', rfl⟩ := own_shape hown; have BR7 := Lib.hid (BRA.out.push (KSA.out.le (show 2 * (512 * (200 + 1)) + 1 ≤ 210000 by omega)) (by rw [hasQ_eq]; rfl) hgrow hown hkind); have VLA := Lib.hid (VLA.out.grown hgrow HA3.out (fun kk e => (BRA.out.own.lt kk e).1)))))
   all_goals
    go_wp2
    go_roundw
    case rel => exact ⟨k + 1, by omega, by go_num, va', vk', _, rfl, BR7, VLA⟩
    case measure => simp [intOf]; omega
  ·obtain rfl : k = n := by omega
   obtain ⟨g, cap, hge, hgb, RB⟩ := BR.out.row h0
   injection hge with e1 e2 e3
   subst e1 e3
   have RB := Lib.hid RB
   have KW := Lib.hid (KW.out.trans (VL.out.mono KW.out.size))
   go_wp2_with (go_at_call 40; go_loud ((with_reducible refine (nums_any g k vk _ 210000 _ RB.out.rats (by omega) (by omega) (keep_maxD HR.out h8 HDD.out HPS.out q)).mono ?_)); rintro e w3 ⟨va, vk, ss, rfl, htx, hv, hb3⟩; have HTX := Lib.hid htx; have HV := Lib.hid hv; have KW := Lib.hid (KW.out.trans (hb3.mono KW.out.size)); clear hv hb3 htx)
   go_ret2
   exact ⟨q, va, vk, ss, rfl, HL.out, HTX.out, Sl.of_own HV.out (fun i hi => strL_get ss k i hi), KW.out⟩
end Go.Proofs.YtgmopcncbpdniaaGreat
