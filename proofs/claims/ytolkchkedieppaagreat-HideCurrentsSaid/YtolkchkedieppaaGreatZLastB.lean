/- As Last, but edges that do not bind may lead forward. A region that draws its order and whose last operation waits for all others: the others first, by the held law, the last one behind them. -/
import Derived.Test.YtolkchkedieppaaGreatProg
import Derived.Deep.RegionHeld3
set_option linter.unusedVariables false
set_option linter.unusedSimpArgs false
namespace Go.Proofs.YtolkchkedieppaaGreat
open Go
/-- operation i of a region: its edges lead back, so does its guard, and it is waited for, if it is not the last one -/
def lastAt2 (ops : Array Oper) (i : Nat) : Bool :=
 match ops[i]? with
 | none => false
 | some (x : Oper) => x.after.all (fun e => !Region.binds .any e || decide (e.on < i)) && (match x.guard with | none => true | some (g, _) => decide (g < i)) &&
   (decide (i + 1 = ops.size) || (List.range ops.size).any (fun j => match ops[j]? with | some (y : Oper) => y.after.any (fun e => Region.binds .any e && decide (e.on = i)) | none => false))
def lastB2 (ops : Array Oper) : Bool := (List.range ops.size).all (lastAt2 ops)
section
variable {P : Program} {pre : Array Oper} {o : Oper} {Q : Exit → Act → World → Prop}
theorem lastB_spec2 (h : lastB2 (pre.push o) = true) (i : Nat) (hi : i < pre.size + 1) :
  ∃ x : Oper, (pre.push o)[i]? = some x ∧ (∀ e ∈ x.after, Region.binds .any e = true → e.on < i) ∧ (∀ g b, x.guard = some (g, b) → g < i) ∧
   (i + 1 = pre.size + 1 ∨ ∃ (j : Nat) (y : Oper), (pre.push o)[j]? = some y ∧ ∃ e ∈ y.after, Region.binds .any e = true ∧ e.on = i) := by
 unfold lastB2 at h
 rw [List.all_eq_true] at h
 have h1 := h i (by simpa using hi)
 unfold lastAt2 at h1
 split at h1
 ·cases h1
 ·rename_i x hx
  simp only [Bool.and_eq_true, Bool.or_eq_true, decide_eq_true_eq, List.any_eq_true, Array.all_eq_true_iff_forall_mem] at h1
  obtain ⟨⟨h2, h3⟩, h4⟩ := h1
  refine ⟨x, hx, fun e he hb => (h2 e he).resolve_left (by rw [hb]; decide), fun g b hg => ?_, ?_⟩
  ·rw [hg] at h3; simpa using h3
  ·rcases h4 with h4 | ⟨j, _, h5⟩
   ·left; simpa using h4
   ·right
    split at h5
    ·rename_i y hy
     rw [Array.any_eq_true'] at h5; simp only [Bool.and_eq_true, decide_eq_true_eq] at h5
     obtain ⟨e, he, h6, h7⟩ := h5
     exact ⟨j, y, hy, e, he, h6, h7⟩
    ·cases h5
theorem push_get2 (i : Nat) (hi : i < pre.size) : (pre.push o)[i]? = pre[i]? := by
 rw [Array.getElem?_push, if_neg (by omega)]
theorem getD_push2 (L : Array Bool) (c d : Bool) (i : Nat) (hi : i < L.size) : (L.push c).getD i d = L.getD i d := by
 simp [Array.getD, hi, Nat.lt_succ_of_lt hi, Array.getElem_push]
theorem getD_last2 (L : Array Bool) (c d : Bool) : (L.push c).getD L.size d = c := by
 simp [Array.getD]
theorem getD_in2 (L : Array Bool) (i : Nat) (hi : i < L.size) (c d : Bool) : L.getD i c = L.getD i d := by
 simp [Array.getD, hi]
theorem getD_ne2 (L : Array Bool) (i k : Nat) (c d : Bool) (h : k ≠ i) : (L.setIfInBounds i c).getD k d = L.getD k d := by
 by_cases e : k < L.size
 ·simp [Array.getD, e, Array.getElem_setIfInBounds, Ne.symm h]
 ·simp [Array.getD, e]
theorem set_last2 (L : Array Bool) (n : Nat) (h : L.size = n) : (L.push false).setIfInBounds n true = L.push true := by
 apply Array.ext_getElem?
 intro k
 rw [Array.getElem?_setIfInBounds, Array.getElem?_push, Array.getElem?_push]
 by_cases e : n = k
 ·subst e; subst h; simp
 ·rw [if_neg e, if_neg (by omega), if_neg (by omega)]
theorem set_early2 (L : Array Bool) (i : Nat) (h : i < L.size) : (L.push false).setIfInBounds i true = (L.setIfInBounds i true).push false := by
 apply Array.ext_getElem?
 intro k
 rw [Array.getElem?_setIfInBounds, Array.getElem?_push, Array.getElem?_push, Array.getElem?_setIfInBounds]
 by_cases e : i = k
 ·subst e
  simp [h, Nat.lt_succ_of_lt h, Nat.ne_of_lt h]
 ·rw [if_neg e, if_neg e]
  simp
/-- what is listed is listed with all that it waits for -/
def ClL2 (pre : Array Oper) (L : Array Bool) : Prop := ∀ j x, L.getD j false = true → pre[j]? = some x → ∀ e ∈ x.after, Region.binds .any e = true → L.getD e.on false = true
theorem clL_set2 {L : Array Bool} (h : ClL2 pre L) {i : Nat} (hi : i ∈ Region.ready .any pre L) : ClL2 pre (L.setIfInBounds i true) := by
 obtain ⟨hu, x, hx, hall⟩ := mem_ready.1 hi
 have key : ∀ k, L.getD k false = true → (L.setIfInBounds i true).getD k false = true := fun k hk => by
  by_cases e : k = i
  ·subst e
   have : k < L.size := by
    refine Nat.lt_of_not_le (fun hn => ?_)
    simp [Array.getD, Nat.not_lt.2 hn] at hk
   simp [Array.getD, this]
  ·rw [getD_ne2 _ _ _ _ _ e]; exact hk
 intro j y hj hy e he hb
 by_cases ej : j = i
 ·subst ej
  rw [hx] at hy
  injection hy with hy
  subst hy
  exact key _ (hall e he hb)
 ·rw [getD_ne2 _ _ _ _ _ ej] at hj
  exact key _ (h j y hj hy e he hb)
theorem ready_push2 (hB : lastB2 (pre.push o) = true) {L : Array Bool} (hL : L.size = pre.size) (c : Bool) (i : Nat) (hi : i < pre.size) : i ∈ Region.ready .any (pre.push o) (L.push c) ↔ i ∈ Region.ready .any pre L := by
 obtain ⟨x, hx, h1, -, -⟩ := lastB_spec2 hB i (by omega)
 rw [mem_ready, mem_ready, getD_push2 L c true i (by omega), push_get2 i hi]
 rw [push_get2 i hi] at hx
 constructor
 ·rintro ⟨a, y, hy, h⟩
  refine ⟨a, y, hy, fun e he hb => ?_⟩
  rw [hx] at hy; injection hy with hy; subst hy
  have := h1 e he hb
  rw [← getD_push2 L c false e.on (by omega)]; exact h e he hb
 ·rintro ⟨a, y, hy, h⟩
  refine ⟨a, y, hy, fun e he hb => ?_⟩
  rw [hx] at hy; injection hy with hy; subst hy
  have := h1 e he hb
  rw [getD_push2 L c false e.on (by omega)]; exact h e he hb
theorem last_not2 (hB : lastB2 (pre.push o) = true) {L : Array Bool} (hL : L.size = pre.size) (hC : ClL2 pre L) (hn : pre.size ∈ Region.ready .any (pre.push o) (L.push false)) : ∀ d i, i + d + 1 = pre.size → L.getD i false = true := by
 obtain ⟨-, x, hx, hall⟩ := mem_ready.1 hn
 intro d
 induction d using Nat.strongRecOn with
 | ind d ih =>
  intro i hi
  obtain ⟨y, hy, -, -, h4⟩ := lastB_spec2 hB i (by omega)
  rcases h4 with h4 | ⟨j, z, hz, e, he, hb, hei⟩
  ·omega
  ·have hjs : j < pre.size + 1 := by
    have := (Array.getElem?_eq_some_iff.1 hz).1
    simpa using this
   obtain ⟨z', hz', h5, -, -⟩ := lastB_spec2 hB j hjs
   rw [hz] at hz'; injection hz' with hz'; subst hz'
   have hij := h5 e he hb
   rw [hei] at hij
   by_cases ej : j = pre.size
   ·subst ej
    rw [hx] at hz; injection hz with hz; subst hz
    have := hall e he hb
    rw [hei, getD_push2 L false false i (by omega)] at this
    exact this
   ·have hjl := ih (pre.size - j - 1) (by omega) j (by omega)
    rw [push_get2 j (by omega)] at hz
    have := hC j z hjl hz e he hb
    rw [hei] at this; exact this
theorem none_left2 (hB : lastB2 (pre.push o) = true) {L : Array Bool} (hL : L.size = pre.size) (hr : Region.ready .any pre L = []) : ∀ i, i < pre.size → L.getD i false = true := by
 intro i
 induction i using Nat.strongRecOn with
 | ind i ih =>
  intro hi
  obtain ⟨x, hx, h1, -, -⟩ := lastB_spec2 hB i (by omega)
  rw [push_get2 i hi] at hx
  rcases hl : L.getD i false with _ | _
  ·have : i ∈ Region.ready .any pre L := mem_ready.2 ⟨by rw [getD_in2 L i (by omega) true false]; exact hl, x, hx, fun e he hb => ih e.on (h1 e he hb) (by have := h1 e he hb; omega)⟩
   rw [hr] at this
   cases this
  ·rfl
theorem all_then2 (hB : lastB2 (pre.push o) = true) {L : Array Bool} (hL : L.size = pre.size) (hall : ∀ i, i < pre.size → L.getD i false = true) :
  (∀ j, j ∈ Region.ready .any (pre.push o) (L.push false) ↔ j = pre.size) ∧ Region.ready .any (pre.push o) (L.push true) = [] := by
 refine ⟨fun j => ⟨fun hj => ?_, fun hj => ?_⟩, ?_⟩
 ·obtain ⟨hu, x, hx, _⟩ := mem_ready.1 hj
  have hjs : j < pre.size + 1 := by simpa using (Array.getElem?_eq_some_iff.1 hx).1
  by_cases e : j = pre.size
  ·exact e
  ·have h1 := hall j (by omega)
   rw [getD_push2 L false true j (by omega), getD_in2 L j (by omega) true false, h1] at hu
   cases hu
 ·subst hj
  obtain ⟨x, hx, h1, -, -⟩ := lastB_spec2 hB pre.size (by omega)
  refine mem_ready.2 ⟨by rw [← hL, getD_last2], x, hx, fun e he hb => ?_⟩
  have := h1 e he hb
  rw [getD_push2 L false false e.on (by omega)]
  exact hall _ this
 ·refine List.eq_nil_iff_forall_not_mem.2 (fun j hj => ?_)
  obtain ⟨hu, x, hx, _⟩ := mem_ready.1 hj
  have hjs : j < pre.size + 1 := by simpa using (Array.getElem?_eq_some_iff.1 hx).1
  by_cases e : j = pre.size
  ·subst e
   rw [← hL, getD_last2] at hu
   cases hu
  ·have h1 := hall j (by omega)
   rw [getD_push2 L true true j (by omega), getD_in2 L j (by omega) true false, h1] at hu
   cases hu
/-- the last operation, behind all others -/
def LastQ2 (P : Program) (ops : Array Oper) (n : Nat) (Q : Exit → Act → World → Prop) : Exit → Act → World → Prop := Exit.then (wpOp P ops Q n (Q .normal)) Q
theorem letsOut_last2 {ops : Array Oper} {n : Nat} (h : LetsOut (LastQ2 P ops n Q)) : LetsOut Q := h
theorem oper_last2 {x : Oper} {ops : Array Oper} {n : Nat} {K : Act → World → Prop} {a : Act} {w : World} (h : x.wp P a w K (LastQ2 P ops n Q)) : x.wp P a w K Q := by
 unfold Oper.wp at *
 generalize (execOp a.eval x).run P w = r at *
 cases r with
 | ok m w' => cases m <;> exact h
 | halt e w' => cases e <;> exact h
theorem yielded_push2 (a : Act) (g : Nat) (hg : g < pre.size) : yielded (pre.push o) a.tmps g = yielded pre a.tmps g := by
 unfold yielded; rw [push_get2 g hg]
theorem wanted_push2 {x : Oper} (a : Act) (hg : ∀ g b, x.guard = some (g, b) → g < pre.size) : Region.wanted x (yielded (pre.push o) a.tmps) = Region.wanted x (yielded pre a.tmps) := by
 unfold Region.wanted
 split
 ·rfl
 ·rename_i g b e
  rw [yielded_push2 a g (hg g b e)]
theorem wpOp_last2 (hB : lastB2 (pre.push o) = true) {ops : Array Oper} {n i : Nat} (hi : i < pre.size) {K K' : Act → World → Prop} (hK : ∀ a w, K a w → K' a w) {a : Act} {w : World} (h : wpOp P pre (LastQ2 P ops n Q) i K a w) : wpOp P (pre.push o) Q i K' a w := by
 obtain ⟨x, hx, -, h3, -⟩ := lastB_spec2 hB i (by omega)
 have hx' := hx
 rw [push_get2 i hi] at hx'
 unfold wpOp at *
 rw [hx]
 rw [hx'] at h
 simp only at h ⊢
 rw [wanted_push2 a (fun g b e => Nat.lt_trans (h3 g b e) hi)]
 split
 ·rename_i hw
  rw [if_pos hw] at h
  rcases h with h | ⟨h1, h2⟩
  ·exact .inl (oper_last2 (Oper.wp_mono hK h))
  ·exact .inr ⟨h1, letsOut_last2 h2⟩
 ·rename_i hw
  rw [if_neg hw] at h
  exact hK _ _ h
theorem wpAny_last2 (hB : lastB2 (pre.push o) = true) : ∀ (fuel : Nat) (L : Array Bool) (a : Act) (w : World), L.size = pre.size → ClL2 pre L →
  wpAny P .any pre (LastQ2 P (pre.push o) pre.size Q) fuel L a w → wpAny P .any (pre.push o) Q (fuel + 1) (L.push false) a w := by
 have fin : ∀ (fuel : Nat) (L : Array Bool) (a : Act) (w : World), L.size = pre.size → Region.ready .any pre L = [] → LastQ2 P (pre.push o) pre.size Q .normal a w → wpAny P .any (pre.push o) Q (fuel + 1) (L.push false) a w := by
  intro fuel L a w hL hr hq
  obtain ⟨g1, g2⟩ := all_then2 hB hL (none_left2 hB hL hr)
  refine ⟨fun h => ?_, fun i hi => ?_⟩
  ·have := (g1 pre.size).2 rfl
   rw [h] at this; cases this
  ·have e := (g1 i).1 hi
   subst e
   have hs := set_last2 L pre.size hL
   rw [hs]
   refine wpOp_mono (fun a w h => ?_) (show wpOp P (pre.push o) Q pre.size (Q .normal) a w from hq)
   cases fuel with
   | zero => exact ⟨g2, h⟩
   | succ f => exact ⟨fun _ => h, fun i hi => by rw [g2] at hi; cases hi⟩
 intro fuel
 induction fuel with
 | zero => intro L a w hL hC h; exact fin 0 L a w hL h.1 h.2
 | succ fuel ih =>
  intro L a w hL hC h
  by_cases hr : Region.ready .any pre L = []
  ·exact fin (fuel + 1) L a w hL hr (h.1 hr)
  ·refine ⟨fun h2 => ?_, fun i hi => ?_⟩
   ·obtain ⟨j, hj⟩ := List.exists_mem_of_ne_nil _ hr
    have hjs : j < pre.size := by
     obtain ⟨_, x, hx, _⟩ := mem_ready.1 hj
     exact (Array.getElem?_eq_some_iff.1 hx).1
    have := (ready_push2 hB hL false j hjs).2 hj
    rw [h2] at this; cases this
   ·have his : i < pre.size := by
     obtain ⟨_, x, hx, _⟩ := mem_ready.1 hi
     have hjs : i < pre.size + 1 := by simpa using (Array.getElem?_eq_some_iff.1 hx).1
     refine Nat.lt_of_le_of_ne (by omega) (fun e => ?_)
     subst e
     have hall := last_not2 hB hL hC hi
     refine hr (List.eq_nil_iff_forall_not_mem.2 (fun j hj => ?_))
     obtain ⟨hu, y, hy, _⟩ := mem_ready.1 hj
     have hjs : j < pre.size := (Array.getElem?_eq_some_iff.1 hy).1
     have h1 := hall (pre.size - j - 1) j (by omega)
     rw [getD_in2 L j (by omega) true false, h1] at hu
     cases hu
    have hi' := (ready_push2 hB hL false i his).1 hi
    have hs := set_early2 L i (by omega)
    rw [hs]
    exact wpOp_last2 hB his (fun a w h3 => ih _ _ _ (by simpa using hL) (clL_set2 hC hi') h3) (h.2 i hi')
/-- the beginning: all operations but the last one, which waits for all -/
theorem wp_region_last2 {ops : Array Oper} {S : World → Prop} {id : Nat} {a : Act} {w : World} (hm : P.follows .mixedOrders = true) (hB : (decide (0 < ops.size) && lastB2 ops) = true) (hS : S w.drew)
  (h : S w.drew → wpAnyH P .any ops.pop (LastQ2 P ops ops.pop.size Q) S ops.pop.size (Array.replicate ops.pop.size false) a w.drew) : (Code.region id ops true).wp P Q a w := by
 rw [Bool.and_eq_true, decide_eq_true_eq] at hB
 obtain ⟨h0, hB⟩ := hB
 obtain ⟨pre, o, rfl⟩ : ∃ pre o, ops = Array.push pre o := Array.eq_push_of_size_ne_zero (by omega)
 rw [Array.pop_push] at h
 refine wp_region_any hm ?_
 have h1 := wpAny_last2 hB pre.size (Array.replicate pre.size false) a w.drew (by simp) (fun j x hj => by
  exfalso
  simp [Array.getD] at hj) (wpAny_of_held _ _ _ _ (h hS))
 have e : (Array.replicate pre.size false).push false = Array.replicate (pre.push o).size false := by simp [Array.replicate_succ]
 rw [e] at h1
 simpa using h1
/-- the last operation's step -/
theorem lastQ_step2 {n : Nat} {ops : Array Oper} {x : Oper} {a : Act} {w : World} (ho : ops[n]? = some x)
  (h : ∀ K : Act → World → Prop, Shut (∀ a w, Q .normal a w → K a w) → if Region.wanted x (yielded ops a.tmps) = true then Oper.wp P x a w K Q else K (a.put x.dst undef) w) : LastQ2 P ops n Q .normal a w :=
 wpOp_step ho (fun K' hK => h K' (fun a w hq => hK a w hq))
end
end Go.Proofs.YtolkchkedieppaaGreat
