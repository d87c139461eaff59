/- append onto a row of the call's own that holds no limbs of numbers: numbers are kept. -/
import Derived.Test.YtcnaagiicpkcpaaGreatMSlv
import Derived.Maps.AppendAt
import Derived.Test.YtcnaagiicpkcpaaGreatMPlainS
set_option linter.unusedVariables false
set_option linter.unusedSimpArgs false
namespace Go.Proofs.YtcnaagiicpkcpaaGreat
open Go.RowKit
/-- no limb of a number -/
def NoLimb (v : Value) : Prop := ∀ z, v ≠ .int .u32 z
/-- no cell of v's own block is a limb -/
def KindB (w : World) (v : Value) : Prop := ∀ g, v.ownBlock = some g → ∀ o x, w.cell? ⟨g, o, none⟩ = some x → NoLimb x
theorem kind_nil (w : World) (n c : Nat) : KindB w (.slice none n c) := fun g h => by cases h
theorem KindB.below {w w' : World} {v : Value} {B : Nat} (h : KindB w v) (hb : Below B w w') (hl : ∀ g, v.ownBlock = some g → g < B) : KindB w' v := fun g hg o x hx => by
  rw [hb.cell (p := ⟨g, o, none⟩) (hl g hg)] at hx
  exact h g hg o x hx
/-- a number is kept by what writes into such a row alone -/
theorem mag_keep {w w' : World} {u v : Value} {x : Nat} (h : Mag w u x) (hk : KindB w v) (hg : w.grownBy w' v.ownBlock) : Mag w' u x := by
  obtain ⟨a, b, o, c, rfl, hs⟩ := h
  refine ⟨a, b, o, c, rfl, ⟨hs.cap, hs.at_, fun q => Nat.lt_of_lt_of_le (hs.lt q) hg.size, fun i hi => ?_, hs.nc⟩⟩
  have hb := hs.lt (by omega)
  have hc := hs.cell i hi
  rw [← hc]
  unfold World.cell?
  rw [hg.block b hb (fun e => hk b e.symm _ _ hc _ rfl)]
theorem rat_keep {w w' : World} {u v : Value} {q : Rat} {m : Nat} (h : RatIs w u q m) (hk : KindB w v) (hg : w.grownBy w' v.ownBlock) : RatIs w' u q m := by
  obtain ⟨a, d, rfl, h1, h2, h3⟩ := h
  exact ⟨a, d, rfl, mag_keep h1 hk hg, mag_keep h2 hk hg, h3⟩
theorem rd4_keep {w w' : World} {row : Option Nat} {b o : Nat} {x y z u : Value} (h : Rd4 w b o x y z u) (hg : w.grownBy w' row) (hne : some b ≠ row) : Rd4 w' b o x y z u := by
  have k : ∀ j, w'.cell? ⟨b, j, none⟩ = w.cell? ⟨b, j, none⟩ := fun j => World.cell?_of_block (hg.block b h.lt hne)
  exact ⟨(k _).trans h.c0, (k _).trans h.c1, (k _).trans h.c2, (k _).trans h.c3, Nat.lt_of_lt_of_le h.lt hg.size⟩
theorem RowP.keep' {w w' : World} {v : Value} {g n K : Nat} {P : Nat → Prop} {q : Nat → Rat} (h : RowP w g n P q K) (hk : KindB w v) (hg : w.grownBy w' v.ownBlock) (hne : some g ≠ v.ownBlock) : RowP w' g n P q K :=
  ⟨fun j hj => by
    obtain ⟨s, a, m, c, a2, m2, c2, h1, h2⟩ := h.cell j hj
    exact ⟨s, a, m, c, a2, m2, c2, rd4_keep h1 hg hne, fun p => rat_keep (h2 p) hk hg⟩,
   fun o => (World.frozen?_of_block (hg.block g h.lt hne)).trans (h.f o), Nat.lt_of_lt_of_le h.lt hg.size⟩
theorem RMat.keep' {w w' : World} {v : Value} {B g k cols K : Nat} {rb rc : Nat → Nat} {Q : Nat → Nat → Rat} (h : RMat w B g k cols rb rc Q K) (hk : KindB w v) (hg : w.grownBy w' v.ownBlock) (h1 : some g ≠ v.ownBlock) (h2 : ∀ i, i < k → some (rb i) ≠ v.ownBlock) :
    RMat w' B g k cols rb rc Q K :=
  ⟨fun i hi => (World.cell?_of_block (hg.block g h.gl h1)).trans (h.hdr i hi), fun o => (World.frozen?_of_block (hg.block g h.gl h1)).trans (h.hf o), h.gB, Nat.lt_of_lt_of_le h.gl hg.size,
   fun i hi => (h.row i hi).keep' hk hg (h2 i hi), h.rB, h.ne, h.apart⟩
/-- a row of the call's own is kept by a store into another block -/
theorem own_st4 {w : World} {base e s n : Nat} {v : Value} {xs : List Value} (h : w.ownsRow base e s v n xs) (b o : Nat) (hne : v.ownBlock ≠ some b) (u0 u1 u2 u3 : Value) : (st4 w b o u0 u1 u2 u3).ownsRow base e s v n xs :=
  h.kept (row := some b) ⟨rfl, rfl, rfl, by rw [size_st4]; exact Nat.le_refl _, fun k hk hkb => by
    have : k ≠ b := fun e => hkb (by rw [e])
    simp only [st4]
    rw [Below.heap_setCell _ _ _ _ this, Below.heap_setCell _ _ _ _ this, Below.heap_setCell _ _ _ _ this, Below.heap_setCell _ _ _ _ this]⟩ (.inr hne)
theorem kind_st4 {w : World} {v : Value} (h : KindB w v) (b o : Nat) (hne : v.ownBlock ≠ some b) (u0 u1 u2 u3 : Value) : KindB (st4 w b o u0 u1 u2 u3) v := fun g hg o' x hx => by
  have : b ≠ g := fun e => hne (by rw [hg, e])
  rw [far4 _ _ _ _ this] at hx
  exact h g hg o' x hx
theorem cell_of {w : World} {g o : Nat} {cur : Array Value} {t : TypeId} {fr : Nat × Nat} (hg : w.heap[g]? = some (.cells cur t fr)) : w.cell? ⟨g, o, none⟩ = cur[o]? := by
  simp [World.cell?, hg]
theorem noLimb_zero {z : Array Value} {n : Nat} (hz : ∀ u ∈ z.toList, NoLimb u) (h0 : 0 < z.size) : ∀ u ∈ (Builtin.zeroCells z n).toList, NoLimb u := fun u hu => by
  unfold Builtin.zeroCells at hu
  simp at hu
  obtain ⟨a, ha, rfl⟩ := hu
  have hlt : a % z.size < z.size := Nat.mod_lt _ h0
  rw [getElem!_pos z (a % z.size) hlt]
  exact hz _ (by simp)
section
variable {P : Program} {w : World}
theorem run_append_kind (base : Nat) (t ty e : TypeId) (i : TypeInfo) (z : Value) (size bytes : Nat) (ht : P.underlying t = some (.slice e)) (hi : P.info? e = some i) (hz : i.zero = some z)
    (hsize : i.size = size) (hby : i.bytes = bytes) (hzs : z.cells.size = size) (hsz : 0 < size)
    (v : Value) (n : Nat) (xs : List Value) (hown : w.ownsRow base e size v n xs) (hkind : KindB w v) (hzk : ∀ u ∈ z.cells.toList, NoLimb u)
    (a : Addr) (m c : Nat) (news : List Value) (hl : news.length = m * size) (hnews : ∀ j u, news[j]? = some u → w.cell? (a.add j) = some u) (h1 : ∀ u ∈ news, u.oneCell' = true) (hnk : ∀ u ∈ news, NoLimb u)
    (h63 : n + m ≤ maxLen) (hbytes : (n + m) * bytes ≤ 140737488355328) (hbase : base ≤ w.heap.size) (hm : 0 < m) :
    ∃ v' w', (Builtin.append_ #[t, t] ty #[v, .slice (some a) m c]).run P w = .ok v' w' ∧ w'.ownsRow base e size v' (n + m) (xs ++ news) ∧ w.grownBy w' v.ownBlock ∧
      (v'.ownBlock = v.ownBlock ∨ v'.ownBlock = some w.heap.size) ∧ KindB w' v' := by
  obtain ⟨v', w', hr, h2, h3, _, h5⟩ := run_append_own_at (P := P) w base t ty e i z size bytes ht hi hz hsize hby hzs hsz v n xs hown a m c news hl hnews h1 h63 hbytes hbase
  refine ⟨v', w', hr, h2, h3, h5, ?_⟩
  subst hsize
  subst hby
  have hsmall : n + m ≤ 9223372036854775807 := by simp only [maxLen] at h63; omega
  have hnew : ∀ (l : List Value) (cap : Nat), (∀ u ∈ l, NoLimb u) → KindB (w.drew.alloc (.cells (l.toArray ++ Builtin.zeroCells z.cells cap) e)) (.slice (some ⟨w.heap.size, 0, none⟩) (n + m) (cap + (n + m))) := fun l cap hlk g hg o x hx => by
    have : w.heap.size = g := Option.some.inj hg
    subst this
    have hcell : (w.drew.alloc (.cells (l.toArray ++ Builtin.zeroCells z.cells cap) e)).cell? ⟨w.heap.size, o, none⟩ = (l.toArray ++ Builtin.zeroCells z.cells cap)[o]? := cell_of (t := e) (fr := (0, 0)) (heap_alloc_new w.drew _)
    rw [hcell] at hx
    have hmem : x ∈ (l.toArray ++ Builtin.zeroCells z.cells cap).toList := by
      rw [← Array.getElem?_toList] at hx
      exact List.mem_of_getElem? hx
    rw [Array.toList_append] at hmem
    rcases List.mem_append.1 hmem with h | h
    · exact hlk x (by simpa using h)
    · exact noLimb_zero hzk (by omega) x h
  have hxk : ∀ u ∈ xs, NoLimb u := fun u hu => by
    obtain ⟨j, hj, rfl⟩ := List.mem_iff_getElem.1 hu
    rcases hob : v.ownBlock with _ | g
    · rcases hown.2 with ⟨rfl, rfl⟩ | ⟨g, cap, cur, rfl, _⟩
      · have := hown.1; omega
      · cases hob
    · have hc := hown.cells hob j xs[j] (by simp)
      rw [add_at, Nat.zero_add] at hc
      exact hkind g hob j _ hc
  rcases hown.2 with ⟨rfl, rfl⟩ | ⟨g, cap, cur, rfl, hbg, hg, hnc, hcm, hcs, htake⟩
  · have hr2 := run_append_nil (P := P) w t ty e i z ht hi hz a m c news hl hnews hm (by omega) (by have hb := hbytes; simp only [Nat.zero_add] at hb; omega)
    rw [hr2] at hr
    injection hr with e1 e2
    subst e1; subst e2
    have h := hnew news (grownCap w m 0 e - m) hnk
    intro g hg o x hx
    exact h g hg o x hx
  · by_cases hroom : n + m ≤ cap
    · have hfit : n * i.size + news.length ≤ cur.size := by rw [hl, hcs, ← Nat.add_mul]; exact Nat.mul_le_mul_right _ hroom
      have hr2 := run_append_room (P := P) w t ty e i ht hi g n cap cur hg a m c news hl hnews h1 hroom hfit
      rw [hr2] at hr
      injection hr with e1 e2
      subst e1; subst e2
      intro g' hg' o x hx
      have : g = g' := Option.some.inj hg'
      subst this
      rw [cell_of (setRow_heap w g cur _ e _ hg)] at hx
      have hmem : x ∈ (cur.toList.take (n * i.size) ++ news ++ cur.toList.drop (n * i.size + news.length)) := by
        rw [List.getElem?_toArray] at hx
        exact List.mem_of_getElem? hx
      have hcur : ∀ u ∈ cur.toList, NoLimb u := fun u hu => by
        obtain ⟨j, hj, rfl⟩ := List.mem_iff_getElem.1 hu
        refine hkind g rfl j _ ?_
        rw [cell_of hg]
        simp
      rcases List.mem_append.1 hmem with h | h
      · rcases List.mem_append.1 h with h | h
        · exact hcur x (List.mem_of_mem_take h)
        · exact hnk x h
      · exact hcur x (List.mem_of_mem_drop h)
    · have holds : ∀ j u, xs[j]? = some u → w.cell? ((⟨g, 0, none⟩ : Addr).add j) = some u := hown.cells (g := g) rfl
      have hr2 := run_append_grow (P := P) w t ty e i z ht hi hz ⟨g, 0, none⟩ n cap xs hown.1 holds a m c news hl hnews (by omega) (by omega) (growslice_fits (by omega) hbytes)
      rw [hr2] at hr
      injection hr with e1 e2
      subst e1; subst e2
      have h := hnew (xs ++ news) (grownCap w (n + m) cap e - (n + m)) (fun u hu => (List.mem_append.1 hu).elim (hxk u) (hnk u))
      intro g' hg' o x hx
      refine h g' hg' o x ?_
      simpa using hx
theorem wpList_append_kind {ops : Array Oper} {rest : List Oper} {o : Oper} {a : Act} {Q : Exit → Act → World → Prop} (hgd : o.guard = none) (s x : Operand) (t : TypeId)
    (ho : o.op = .call { callee := .builtin .append, args := #[s, x], argTypes := #[t, t] })
    (base : Nat) (e : TypeId) (i : TypeInfo) (z : Value) (size bytes : Nat) (ht : P.underlying t = some (.slice e)) (hi : P.info? e = some i) (hz : i.zero = some z)
    (hsize : i.size = size) (hby : i.bytes = bytes) (hzs : z.cells.size = size) (hsz : 0 < size)
    (v : Value) (n : Nat) (xs : List Value) (hs : a.eval s = v) (hown : w.ownsRow base e size v n xs) (hkind : KindB w v) (hzk : ∀ u ∈ z.cells.toList, NoLimb u)
    (ad : Addr) (m c : Nat) (news : List Value) (hx : a.eval x = .slice (some ad) m c) (hl : news.length = m * size) (hnews : ∀ j u, news[j]? = some u → w.cell? (ad.add j) = some u) (h1 : ∀ u ∈ news, u.oneCell' = true) (hnk : ∀ u ∈ news, NoLimb u)
    (h63 : n + m ≤ maxLen) (hbytes : (n + m) * bytes ≤ 140737488355328) (hbase : base ≤ w.heap.size) (hm : 0 < m)
    (h : ∀ v' w', w'.ownsRow base e size v' (n + m) (xs ++ news) → w.grownBy w' v.ownBlock → (v'.ownBlock = v.ownBlock ∨ v'.ownBlock = some w.heap.size) → KindB w' v' → wpList P ops Q rest (a.put o.dst v') w') : wpList P ops Q (o :: rest) a w := by
  refine wpList_plain hgd fun K hK => ?_
  obtain ⟨v', w', hr, h2, h3, h5, h6⟩ := run_append_kind (P := P) base t o.type e i z size bytes ht hi hz hsize hby hzs hsz v n xs hown hkind hzk ad m c news hl hnews h1 hnk h63 hbytes hbase hm
  unfold Oper.wp execOp
  simp only [ho, resolve, invoke, builtin, Sem.run_bind, Sem.run_pure, Result.andThen_ok, List.map_toArray, List.map_cons, List.map_nil, hs, hx, hr]
  exact hK _ _ (h v' w' h2 h3 h5 h6)
end
end Go.Proofs.YtcnaagiicpkcpaaGreat

/- A row of Rats gathered by append in memory of the call's own. -/
namespace Go.Proofs.YtcnaagiicpkcpaaGreat
open Go.RowKit
/-- r Rats gathered by append -/
structure BRow (w : World) (base : Nat) (v : Value) (r : Nat) (q : Nat → Rat) (K : Nat) (xs : List Value) : Prop where
  kind : KindB w v
  own : w.ownsRow base 95 4 v r xs
  val : ∀ j, j < r → ∃ s a m c a2 m2 c2, xs[j * 4]? = some (.bool s) ∧ xs[j * 4 + 1]? = some (.slice a m c) ∧ xs[j * 4 + 2]? = some (.bool false) ∧ xs[j * 4 + 3]? = some (.slice a2 m2 c2) ∧ RatIs w (.agg #[.bool s, .slice a m c, .bool false, .slice a2 m2 c2]) (q j) K
variable {w w' : World} {base r K : Nat} {v : Value} {q : Nat → Rat} {xs : List Value}
theorem BRow.nil (w : World) (base : Nat) (q : Nat → Rat) (K : Nat) : BRow w base (.slice none 0 0) 0 q K [] := ⟨kind_nil _ _ _, World.ownsRow_nil _ _ _ _, fun j hj => by omega⟩
theorem BRow.below (h : BRow w base v r q K xs) (hb : Below w.heap.size w w') : BRow w' base v r q K xs :=
  ⟨h.kind.below hb (fun g hg => (h.own.lt g hg).2), own_kept h.own hb, fun j hj => by
    obtain ⟨s, a, m, c, a2, m2, c2, h1, h2, h3, h4, h5⟩ := h.val j hj
    exact ⟨s, a, m, c, a2, m2, c2, h1, h2, h3, h4, h5.mono hb (Nat.le_refl _)⟩⟩
theorem BRow.st4 {b o : Nat} {s' t' : Bool} {a' a2' : Option Addr} {m' c' m2' c2' : Nat} (h : BRow w base v r q K xs) (u0 u1 u2 u3 : Value) (hr : Rd4 w b o (.bool s') (.slice a' m' c') (.bool t') (.slice a2' m2' c2')) (hne : v.ownBlock ≠ some b) : BRow (st4 w b o u0 u1 u2 u3) base v r q K xs :=
  ⟨kind_st4 h.kind b o hne _ _ _ _, own_st4 h.own b o hne _ _ _ _, fun j hj => by
    obtain ⟨s, a, m, c, a2, m2, c2, h1, h2, h3, h4, h5⟩ := h.val j hj
    exact ⟨s, a, m, c, a2, m2, c2, h1, h2, h3, h4, h5.at4 _ _ _ _ hr⟩⟩
theorem BRow.push {v' : Value} {x : Rat} {s : Bool} {a a2 : Option Addr} {m c m2 c2 : Nat} (h : BRow w base v r q K xs) (hx : RatIs w (.agg #[.bool s, .slice a m c, .bool false, .slice a2 m2 c2]) x K) (hq : q r = x)
    (hgrow : w.grownBy w' v.ownBlock) (hown : w'.ownsRow base 95 4 v' (r + 1) (xs ++ [.bool s, .slice a m c, .bool false, .slice a2 m2 c2])) (hkind : KindB w' v') : BRow w' base v' (r + 1) q K (xs ++ [.bool s, .slice a m c, .bool false, .slice a2 m2 c2]) := by
  have hl := h.own.1
  refine ⟨hkind, hown, fun j hj => ?_⟩
  by_cases e : j < r
  · obtain ⟨s', a', m', c', a2', m2', c2', h1, h2, h3, h4, h5⟩ := h.val j e
    exact ⟨s', a', m', c', a2', m2', c2', by rw [List.getElem?_append_left (by omega)]; exact h1, by rw [List.getElem?_append_left (by omega)]; exact h2, by rw [List.getElem?_append_left (by omega)]; exact h3, by rw [List.getElem?_append_left (by omega)]; exact h4, rat_keep h5 h.kind hgrow⟩
  · obtain rfl : j = r := by omega
    refine ⟨s, a, m, c, a2, m2, c2, ?_, ?_, ?_, ?_, by rw [hq]; exact rat_keep hx h.kind hgrow⟩
    · rw [List.getElem?_append_right (by omega), hl, Nat.sub_self]; rfl
    · rw [List.getElem?_append_right (by omega), hl, show j * 4 + 1 - j * 4 = 1 by omega]; rfl
    · rw [List.getElem?_append_right (by omega), hl, show j * 4 + 2 - j * 4 = 2 by omega]; rfl
    · rw [List.getElem?_append_right (by omega), hl, show j * 4 + 3 - j * 4 = 3 by omega]; rfl
theorem BRow.row (h : BRow w base v r q K xs) (h0 : 0 < r) : ∃ g cap, v = .slice (some ⟨g, 0, none⟩) r cap ∧ base ≤ g ∧ RatRow w g r q K := by
  have h1 := h.own
  rcases h1.2 with ⟨_, e⟩ | ⟨g, cap, cur, hv, hbg, hg, hcap, hml, hsz, htk⟩
  · omega
  · subst hv
    have hlt : g < w.heap.size := (Array.getElem?_eq_some_iff.1 hg).1
    have hc := h1.cells (g := g) rfl
    refine ⟨g, cap, rfl, hbg, ⟨fun j hj => ?_, fun o => by simp [World.frozen?, hg], hlt⟩⟩
    obtain ⟨s', a', m', c', a2', m2', c2', k1, k2, k3, k4, k5⟩ := h.val j hj
    have k : ∀ i u, xs[i]? = some u → w.cell? ⟨g, i, none⟩ = some u := fun i u hu => by
      have := hc i u hu
      rw [add_at, Nat.zero_add] at this; exact this
    exact ⟨s', a', m', c', a2', m2', c2', ⟨k _ _ k1, k _ _ k2, k _ _ k3, k _ _ k4, hlt⟩, fun _ => k5⟩
theorem BRow.alloc (h : BRow w base v r q K xs) (o : Obj) : BRow (w.alloc o) base v r q K xs := h.below ((Below.refl w.heap.size w).alloc (Nat.le_refl _) o)
theorem noLimb_4 (s t : Bool) (a a2 : Option Addr) (m c m2 c2 : Nat) : ∀ u ∈ [Value.bool s, .slice a m c, .bool t, .slice a2 m2 c2], NoLimb u := fun u hu => by
  simp at hu
  rcases hu with rfl | rfl | rfl | rfl <;> exact fun z h => by cases h
end Go.Proofs.YtcnaagiicpkcpaaGreat

/- Plain: the payments of failing firms, round by round. -/
namespace Go.Proofs.YtcnaagiicpkcpaaGreat
/-- the firms of a set, rising -/
def frL (F : Nat → Bool) : Nat → List Nat
  | 0 => []
  | n + 1 => if F n then frL F n ++ [n] else frL F n
def rankF (F : Nat → Bool) (n : Nat) : Nat := (frL F n).length
theorem rankF_succ (F : Nat → Bool) (n : Nat) : rankF F (n + 1) = rankF F n + if F n then 1 else 0 := by
  unfold rankF; simp only [frL]; split <;> simp
theorem rankF_le (F : Nat → Bool) : ∀ n, rankF F n ≤ n
  | 0 => Nat.le_refl _
  | n + 1 => by rw [rankF_succ]; have := rankF_le F n; split <;> omega
theorem frL_spec (F : Nat → Bool) : ∀ n r, r < rankF F n → F ((frL F n).getD r 0) = true ∧ (frL F n).getD r 0 < n ∧ rankF F ((frL F n).getD r 0) = r
  | 0, r, h => by simp [rankF, frL] at h
  | n + 1, r, h => by
    by_cases e : F n = true
    · have e1 : frL F (n + 1) = frL F n ++ [n] := by simp [frL, e]
      rw [rankF_succ, if_pos e] at h
      rw [e1]
      by_cases h2 : r < rankF F n
      · have e2 : (frL F n ++ [n]).getD r 0 = (frL F n).getD r 0 := by
          simp only [List.getD_eq_getElem?_getD]
          rw [List.getElem?_append_left h2]
        rw [e2]
        obtain ⟨q1, q2, q3⟩ := frL_spec F n r h2
        exact ⟨q1, by omega, q3⟩
      · have e3 : r = (frL F n).length := by unfold rankF at *; omega
        have e2 : (frL F n ++ [n]).getD r 0 = n := by
          simp only [List.getD_eq_getElem?_getD]
          rw [List.getElem?_append_right (by omega), e3]; simp
        rw [e2]
        exact ⟨e, by omega, by rw [e3]; rfl⟩
    · have e1 : frL F (n + 1) = frL F n := by simp [frL, e]
      rw [rankF_succ, if_neg e] at h
      rw [e1]
      obtain ⟨q1, q2, q3⟩ := frL_spec F n r h
      exact ⟨q1, by omega, q3⟩
theorem frL_rank (F : Nat → Bool) : ∀ n j, j < n → F j = true → rankF F j < rankF F n ∧ (frL F n).getD (rankF F j) 0 = j
  | 0, j, h, _ => by omega
  | n + 1, j, h, hF => by
    by_cases ej : j = n
    · subst ej
      have e1 : frL F (j + 1) = frL F j ++ [j] := by simp [frL, hF]
      rw [rankF_succ, if_pos hF, e1]
      refine ⟨by omega, ?_⟩
      simp only [List.getD_eq_getElem?_getD]
      unfold rankF
      rw [List.getElem?_append_right (Nat.le_refl _)]; simp
    · obtain ⟨q1, q2⟩ := frL_rank F n j (by omega) hF
      by_cases e : F n = true
      · have e1 : frL F (n + 1) = frL F n ++ [n] := by simp [frL, e]
        rw [rankF_succ, if_pos e, e1]
        refine ⟨by omega, ?_⟩
        simp only [List.getD_eq_getElem?_getD] at q2 ⊢
        rw [List.getElem?_append_left q1]; exact q2
      · have e1 : frL F (n + 1) = frL F n := by simp [frL, e]
        rw [rankF_succ, if_neg e, e1]
        exact ⟨by omega, q2⟩
theorem sumQ_fr (F : Nat → Bool) (f : Nat → Rat) : ∀ n, sumQ (fun r => f ((frL F n).getD r 0)) (rankF F n) = sumQ (fun j => if F j then f j else 0) n
  | 0 => rfl
  | n + 1 => by
    simp only [sumQ]
    rw [← sumQ_fr F f n, rankF_succ]
    by_cases e : F n = true
    · have e1 : frL F (n + 1) = frL F n ++ [n] := by simp [frL, e]
      rw [if_pos e, if_pos e, e1]
      show sumQ _ (rankF F n) + _ = _
      congr 1
      · refine sumQ_congr _ (fun r hr => ?_)
        simp only [List.getD_eq_getElem?_getD]
        rw [List.getElem?_append_left hr]
      · simp only [List.getD_eq_getElem?_getD]
        unfold rankF
        rw [List.getElem?_append_right (Nat.le_refl _)]; simp
    · have e1 : frL F (n + 1) = frL F n := by simp [frL, e]
      rw [if_neg e, if_neg e, e1]; simp only [Nat.add_zero]; grind
/-- what a firm has -/
def hasP (n : Nat) (c : Nat → Rat) (S : Nat → Nat → Rat) (x : Nat → Rat) (i : Nat) : Rat := c i + sumQ (fun j => x j * S j i) n
theorem hasP_sub (n : Nat) (c : Nat → Rat) (S : Nat → Nat → Rat) (x y : Nat → Rat) (i : Nat) : hasP n c S x i - hasP n c S y i = sumQ (fun j => (x j - y j) * S j i) n := by
  unfold hasP
  have : sumQ (fun j => (x j - y j) * S j i) n = sumQ (fun j => x j * S j i) n - sumQ (fun j => y j * S j i) n := by
    rw [← sumQ_sub]; exact sumQ_congr n (fun j _ => by grind)
  grind
/-- a market: cash at or above 0, totals at or above 0, shares -/
structure MktQ (n : Nat) (c T : Nat → Rat) (S : Nat → Nat → Rat) : Prop where
  sh : Shr n S
  c0 : ∀ i, i < n → 0 ≤ c i
  t0 : ∀ i, i < n → 0 ≤ T i
/-- the firms of F pay what they have, the others their totals -/
structure SolF (n : Nat) (c T : Nat → Rat) (S : Nat → Nat → Rat) (F : Nat → Bool) (x : Nat → Rat) : Prop where
  on : ∀ i, i < n → F i = true → x i = hasP n c S x i
  no : ∀ i, i < n → F i = false → x i = T i
/-- the matrix of solve -/
def solA (n : Nat) (c T : Nat → Rat) (S : Nat → Nat → Rat) (F : Nat → Bool) (r j : Nat) : Rat :=
  if j < rankF F n then (if j = r then 1 else 0) - S ((frL F n).getD j 0) ((frL F n).getD r 0)
  else hasP n c S (fun i => if F i then 0 else T i) ((frL F n).getD r 0)
theorem solA_mm {n : Nat} {c T : Nat → Rat} {S : Nat → Nat → Rat} (hm : MktQ n c T S) (F : Nat → Bool) (hF : NoClosed n S (fun i => F i = true)) : MMat (rankF F n) 0 (solA n c T S F) := by
  refine ⟨fun i j _ hi _ hj hn => ?_, fun j _ hj => ?_, fun z hz i _ hi => ?_⟩
  · unfold solA
    rw [if_pos hj, if_neg (by omega)]
    have := hm.sh.pos ((frL F n).getD j 0) ((frL F n).getD i 0)
    grind
  · have e1 : sumQ (fun i => if 0 ≤ i then solA n c T S F i j else 0) (rankF F n) = sumQ (fun i => if j = i then 1 else 0) (rankF F n) - sumQ (fun i => S ((frL F n).getD j 0) ((frL F n).getD i 0)) (rankF F n) := by
      rw [← sumQ_sub]
      refine sumQ_congr _ (fun i hi => ?_)
      rw [if_pos (Nat.zero_le _)]
      unfold solA
      rw [if_pos hj]
    rw [e1, sumQ_one _ j _ hj (fun i _ hn => if_neg (by omega)), if_pos rfl, sumQ_fr F (fun i => S ((frL F n).getD j 0) i) n]
    have h2 := hm.sh.one ((frL F n).getD j 0) (frL_spec F n j hj).2.1
    have h3 := sumQ_le n (f := fun i => if F i = true then S ((frL F n).getD j 0) i else 0) (g := fun i => S ((frL F n).getD j 0) i) (fun i hi => by
      have := hm.sh.pos ((frL F n).getD j 0) i
      split <;> grind)
    grind
  · -- the kernel, as firms
    have hq : ∀ r, r < rankF F n → z r = sumQ (fun j => (if F j then z (rankF F j) else 0) * S j ((frL F n).getD r 0)) n := by
      intro r hr
      have h1 := hz r (Nat.zero_le _) hr
      have e1 : sumQ (fun j => if 0 ≤ j then solA n c T S F r j * z j else 0) (rankF F n) = sumQ (fun j => (if j = r then z r else 0)) (rankF F n) - sumQ (fun j => (fun i => z (rankF F i) * S i ((frL F n).getD r 0)) ((frL F n).getD j 0)) (rankF F n) := by
        rw [← sumQ_sub]
        refine sumQ_congr _ (fun j hj => ?_)
        rw [if_pos (Nat.zero_le _)]
        unfold solA
        rw [if_pos hj]
        simp only [(frL_spec F n j hj).2.2]
        by_cases e : j = r
        · subst e; simp; grind
        · simp [e]; grind
      rw [e1, sumQ_one _ r _ hr (fun i _ hn => if_neg hn), if_pos rfl, sumQ_fr F (fun i => z (rankF F i) * S i ((frL F n).getD r 0)) n] at h1
      have e2 : sumQ (fun j => (if F j then z (rankF F j) else 0) * S j ((frL F n).getD r 0)) n = sumQ (fun j => if F j = true then z (rankF F j) * S j ((frL F n).getD r 0) else 0) n :=
        sumQ_congr n (fun j _ => by split <;> grind)
      rw [e2]; grind
    have k1 := below_zero hm.sh hF (fun j => if F j then z (rankF F j) else 0) (fun i _ hn => by simp only [if_neg hn]; exact Rat.le_refl) (fun j hj hFj => by
      obtain ⟨q1, q2⟩ := frL_rank F n j hj hFj
      have := hq (rankF F j) q1
      rw [q2] at this
      simp only [if_pos hFj]
      rw [← this]; exact Rat.le_refl)
    have k2 := below_zero hm.sh hF (fun j => - (if F j then z (rankF F j) else 0)) (fun i _ hn => by simp only [if_neg hn]; grind) (fun j hj hFj => by
      obtain ⟨q1, q2⟩ := frL_rank F n j hj hFj
      have := hq (rankF F j) q1
      rw [q2] at this
      have e2 : sumQ (fun i => -(if F i then z (rankF F i) else 0) * S i j) n = - sumQ (fun i => (if F i then z (rankF F i) else 0) * S i j) n := by
        have := sumQ_mul (-1) (fun i => (if F i then z (rankF F i) else 0) * S i j) n
        have e3 : sumQ (fun i => -(if F i then z (rankF F i) else 0) * S i j) n = sumQ (fun i => (-1) * ((if F i then z (rankF F i) else 0) * S i j)) n := sumQ_congr n (fun i _ => by grind)
        rw [e3, this]; grind
      rw [e2, ← this]
      simp only [if_pos hFj]
      exact Rat.le_refl)
    obtain ⟨q1, q2, q3⟩ := frL_spec F n i hi
    have a1 := k1 _ q2
    have a2 := k2 _ q2
    simp only [if_pos q1, q3] at a1 a2
    grind
/-- the payments of solve, of what the triangle answers -/
theorem sol_of {n : Nat} {c T : Nat → Rat} {S : Nat → Nat → Rat} (hm : MktQ n c T S) (F : Nat → Bool) (hF : NoClosed n S (fun i => F i = true)) (x p : Nat → Rat)
    (hx : ∀ i, i < rankF F n → resid (rankF F n) i (triQ (solA n c T S F) (rankF F n)) x i = 0) (hp : ∀ i, i < n → p i = if F i then x (rankF F i) else T i) : SolF n c T S F p := by
  have hs := solved (solA_mm hm F hF) x hx
  refine ⟨fun i hi hFi => ?_, fun i hi hFi => by rw [hp i hi, hFi]; simp⟩
  obtain ⟨q1, q2⟩ := frL_rank F n i hi hFi
  have h1 := hs (rankF F i) q1
  unfold resid at h1
  have e1 : sumQ (fun j => if 0 ≤ j then solA n c T S F (rankF F i) j * x j else 0) (rankF F n) = sumQ (fun j => (if j = rankF F i then x (rankF F i) else 0)) (rankF F n) - sumQ (fun j => (fun k => x (rankF F k) * S k i) ((frL F n).getD j 0)) (rankF F n) := by
    rw [← sumQ_sub]
    refine sumQ_congr _ (fun j hj => ?_)
    rw [if_pos (Nat.zero_le _)]
    unfold solA
    rw [if_pos hj, q2]
    simp only [(frL_spec F n j hj).2.2]
    by_cases e : j = rankF F i
    · rw [e]; simp; grind
    · simp [e]; grind
  rw [e1, sumQ_one _ _ _ q1 (fun i _ hn => if_neg hn), if_pos rfl, sumQ_fr F (fun k => x (rankF F k) * S k i) n] at h1
  have e2 : solA n c T S F (rankF F i) (rankF F n) = hasP n c S (fun i => if F i then 0 else T i) i := by
    unfold solA
    rw [if_neg (Nat.lt_irrefl _), q2]
  rw [e2] at h1
  have e3 : sumQ (fun j => p j * S j i) n = sumQ (fun j => (if F j then 0 else T j) * S j i) n + sumQ (fun j => if F j = true then x (rankF F j) * S j i else 0) n := by
    rw [← sumQ_add]
    refine sumQ_congr n (fun j hj => ?_)
    rw [hp j hj]
    by_cases e : F j = true
    · simp [e]; grind
    · simp [e]; grind
  unfold hasP at h1 ⊢
  rw [e3, hp i hi, if_pos hFi]
  grind
/-- what a round starts with: no closed set has failed, and some payments at or above what failed firms have by them, at most the totals -/
structure RndJ (n : Nat) (c T : Nat → Rat) (S : Nat → Nat → Rat) (F : Nat → Bool) : Prop where
  nc : NoClosed n S (fun i => F i = true)
  sup : ∃ y : Nat → Rat, (∀ i, i < n → y i ≤ T i) ∧ (∀ i, i < n → F i = true → hasP n c S y i ≤ y i) ∧ (∀ i, i < n → F i = false → y i = T i)
theorem rndJ_zero (n : Nat) (c T : Nat → Rat) (S : Nat → Nat → Rat) (F : Nat → Bool) (h : ∀ i, F i = false) : RndJ n c T S F :=
  ⟨fun Z hZ _ i hi => by have := (hZ i hi).2; simp [h] at this, T, fun i _ => Rat.le_refl, fun i _ hF => by simp [h] at hF, fun i _ _ => rfl⟩
theorem sol_le {n : Nat} {c T : Nat → Rat} {S : Nat → Nat → Rat} (hm : MktQ n c T S) {F : Nat → Bool} (hJ : RndJ n c T S F) {x : Nat → Rat} (hx : SolF n c T S F x) : ∀ i, i < n → x i ≤ T i := by
  obtain ⟨y, h1, h2, h3⟩ := hJ.sup
  have := below_zero hm.sh hJ.nc (fun i => x i - y i) (fun i hi hn => by
    have hf : F i = false := by simpa using hn
    have e1 := hx.no i hi hf
    have e2 := h3 i hi hf
    show x i - y i ≤ 0
    grind) (fun i hi hF => by
    rw [← hasP_sub n c S x y i]
    have := h2 i hi hF
    have := hx.on i hi hF
    show x i - y i ≤ _
    grind)
  intro i hi
  have a := this i hi
  have b := h1 i hi
  grind
theorem sol_nonneg {n : Nat} {c T : Nat → Rat} {S : Nat → Nat → Rat} (hm : MktQ n c T S) {F : Nat → Bool} (hJ : RndJ n c T S F) {x : Nat → Rat} (hx : SolF n c T S F x) : ∀ i, i < n → 0 ≤ x i := by
  have := below_zero hm.sh hJ.nc (fun i => - x i) (fun i hi hn => by
    have hf : F i = false := by simpa using hn
    have e1 := hx.no i hi hf
    have e2 := hm.t0 i hi
    show - x i ≤ 0
    grind) (fun i hi hF => by
    have e2 : sumQ (fun j => - x j * S j i) n = - sumQ (fun j => x j * S j i) n := by
      have := sumQ_mul (-1) (fun j => x j * S j i) n
      have e3 : sumQ (fun j => - x j * S j i) n = sumQ (fun j => (-1) * (x j * S j i)) n := sumQ_congr n (fun i _ => by grind)
      rw [e3, this]; grind
    show - x i ≤ sumQ (fun j => - x j * S j i) n
    rw [e2]
    have h1 := hx.on i hi hF
    unfold hasP at h1
    have := hm.c0 i hi
    grind)
  intro i hi
  have a := this i hi
  grind
theorem rndJ_next {n : Nat} {c T : Nat → Rat} {S : Nat → Nat → Rat} (hm : MktQ n c T S) {F G : Nat → Bool} (hJ : RndJ n c T S F) {x : Nat → Rat} (hx : SolF n c T S F x)
    (hG : ∀ i, i < n → (G i = true ↔ F i = true ∨ hasP n c S x i < T i)) : RndJ n c T S G := by
  have h0 := sol_nonneg hm hJ hx
  have hT := sol_le hm hJ hx
  refine ⟨?_, x, hT, fun i hi hg => ?_, fun i hi hg => ?_⟩
  · intro Z hZ hcl
    have key : ∀ j, Z j → F j = true := by
      intro j hj
      refine Classical.byContradiction (fun hn => ?_)
      have hFj : F j = false := by simpa using hn
      have hlt : hasP n c S x j < T j := by
        rcases (hG j (hZ j hj).1).1 (hZ j hj).2 with h | h
        · exact absurd h hn
        · exact h
      have := Classical.propDecidable
      -- sums over Z
      have s1 : sumQ (fun i => if Z i then x i else 0) n = sumQ (fun j => if Z j then x j * sumQ (fun i => S j i) n else 0) n :=
        sumQ_congr n (fun i hi => by
          by_cases hz : Z i
          · simp only [if_pos hz]; rw [(hcl i hz).1]; grind
          · simp only [if_neg hz])
      have s2 : sumQ (fun j => if Z j then x j * sumQ (fun i => S j i) n else 0) n = sumQ (fun j => sumQ (fun i => if Z j then x j * S j i else 0) n) n :=
        sumQ_congr n (fun i hi => by
          by_cases hz : Z i
          · simp only [if_pos hz]; rw [← sumQ_mul]
          · simp only [if_neg hz]; rw [sumQ_zero])
      have s3 : sumQ (fun j => sumQ (fun i => if Z j then x j * S j i else 0) n) n = sumQ (fun i => sumQ (fun j => if Z j then x j * S j i else 0) n) n := sumQ_swap _ _ _
      have s4 : sumQ (fun i => sumQ (fun j => if Z j then x j * S j i else 0) n) n ≤ sumQ (fun i => if Z i then hasP n c S x i else 0) n := sumQ_le n (fun i hi => by
        by_cases hz : Z i
        · simp only [if_pos hz]
          unfold hasP
          have := sumQ_le n (f := fun j => if Z j then x j * S j i else 0) (g := fun j => x j * S j i) (fun j hj => by
            by_cases hz : Z j
            · simp only [if_pos hz]; exact Rat.le_refl
            · simp only [if_neg hz]; exact Rat.mul_nonneg (h0 j hj) (hm.sh.pos j i))
          have := hm.c0 i hi
          grind
        · simp only [if_neg hz]
          rw [sumQ_eq_zero n (fun j hj => by
            by_cases hz2 : Z j
            · simp only [if_pos hz2]; rw [(hcl j hz2).2 i hi hz]; grind
            · simp only [if_neg hz2])]
          exact Rat.le_refl)
      have s5 := sumQ_le_eq n (f := fun i => if Z i then hasP n c S x i else 0) (g := fun i => if Z i then x i else 0) (fun i hi => by
        by_cases hz : Z i
        · simp only [if_pos hz]
          rcases Bool.eq_false_or_eq_true (F i) with hf | hf
          · rw [← hx.on i hi hf]; exact Rat.le_refl
          · rcases (hG i hi).1 (hZ i hz).2 with h | h
            · rw [hf] at h; exact absurd h (by simp)
            · rw [hx.no i hi hf]; exact Rat.le_of_lt h
        · simp only [if_neg hz]; exact Rat.le_refl) (by rw [s1, s2, s3]; exact s4) j (hZ j hj).1
      simp only [if_pos hj] at s5
      rw [hx.no j (hZ j hj).1 hFj] at s5
      rw [s5] at hlt
      exact absurd hlt (Rat.lt_irrefl)
    exact hJ.nc Z (fun i hi => ⟨(hZ i hi).1, key i hi⟩) hcl
  · rcases (hG i hi).1 hg with h | h
    · rw [← hx.on i hi h]; exact Rat.le_refl
    · rcases Bool.eq_false_or_eq_true (F i) with hf | hf
      · rw [← hx.on i hi hf]; exact Rat.le_refl
      · rw [hx.no i hi hf]; exact Rat.le_of_lt h
  · have : F i = false := by
      rcases Bool.eq_false_or_eq_true (F i) with hf | hf
      · have := (hG i hi).2 (.inl hf); rw [hg] at this; exact absurd this (by decide)
      · exact hf
    exact hx.no i hi this
/-- payments that clear -/
structure ClrQ (n : Nat) (c T : Nat → Rat) (S : Nat → Nat → Rat) (x : Nat → Rat) : Prop where
  pos : ∀ i, i < n → 0 ≤ x i
  tot : ∀ i, i < n → x i ≤ T i
  has : ∀ i, i < n → x i ≤ hasP n c S x i
  eq : ∀ i, i < n → x i = T i ∨ x i = hasP n c S x i
theorem sol_clears {n : Nat} {c T : Nat → Rat} {S : Nat → Nat → Rat} (hm : MktQ n c T S) {F : Nat → Bool} (hJ : RndJ n c T S F) {x : Nat → Rat} (hx : SolF n c T S F x)
    (hno : ∀ i, i < n → F i = false → T i ≤ hasP n c S x i) : ClrQ n c T S x := by
  refine ⟨sol_nonneg hm hJ hx, sol_le hm hJ hx, fun i hi => ?_, fun i hi => ?_⟩
  · rcases Bool.eq_false_or_eq_true (F i) with hf | hf
    · rw [← hx.on i hi hf]; exact Rat.le_refl
    · rw [hx.no i hi hf]; exact hno i hi hf
  · rcases Bool.eq_false_or_eq_true (F i) with hf | hf
    · exact .inr (hx.on i hi hf)
    · exact .inl (hx.no i hi hf)
end Go.Proofs.YtcnaagiicpkcpaaGreat
