/- Code of package hide at a valid cut. -/
import Derived.Test.YtolkchkedieppaaGreatVRdB
import Derived.Test.YtolkchkedieppaaGreatVLayB
import Derived.Test.YtolkchkedieppaaGreatVOrd
import Derived.Test.YtolkchkedieppaaGreatVOwnI
import Derived.BigQuiet
import Derived.Test.YtolkchkedieppaaGreatProg
import Derived.Deep.RegionHeld3
set_option linter.unusedVariables false
set_option linter.unusedSimpArgs false
namespace Go.Proofs.YtolkchkedieppaaGreat
open Go.RowKit
attribute [local go_sem ↓] Go.wp_at_zero Go.wp_at_succ
/-- sides of the squares -/
def szF (S : List Tr) (i : Nat) : Int := (S.getD i default).c
set_option maxHeartbeats 4000000 in
set_option maxRecDepth 100000 in
theorem code_good (g0 c0 : Nat) (S : List Tr) (w : World) (hS : TrR w g0 0 S) (hg : g0 < w.heap.size) (hc : S.length ≤ c0) (hC : CutOK S) :
  Calls Tryz.prog 31 #[.slice (some ⟨g0, 0, none⟩) S.length c0] w fun e w' => ∃ va vk S' B, e = .returned (.tuple #[.slice va S.length vk, .int .i64 0]) ∧ S'.length = S.length ∧ S.Perm S' ∧ S'.Pairwise (fun a b => ¬ ltS b a) ∧
   w.heap.size ≤ B ∧ w'.ownsRow B 3 1 (.slice va S.length vk) S.length (ics (szF S') S.length) ∧ Below w.heap.size w w' := by
 obtain ⟨i0, hinf, hz0, hz1, hz2⟩ := info_parts infoI
 have hcon := read_good g0 c0 S w hS hg hc hC
 have hn24 := hC.few
 clear hS hg hc hC
 go_enter Tryz.func31, Tryz.ntmps31
 go_wp2_with (go_at_call 54; (with_reducible refine hcon.mono ?_); rintro e w1 ⟨bp, gc, cap, S', rfl, hl, hp, hs, h0, h1, h2, hr, hg, hb, hK⟩; have HL := Lib.hid hl; have HPM := Lib.hid hp; have HSO := Lib.hid hs; have HTR := Lib.hid hr; have KW := Lib.hid hK; clear hl hp hs hr hK)
 clear h1 h2 hcon
 have HRB := Lib.hid hg
 have OW0 : Hid (w1.ownsRow w1.heap.size 3 1 (.slice none 0 0) 0 (ics (szF S') 0)) := Lib.hid (World.ownsRow_nil _ _ _ _)
 have KW0 := Lib.hid (Below.refl w1.heap.size w1)
 have hb0 := hb
 have hg0 := hg
 have hls := HL.out
 go_loopw [6, 8, 22] (fun v6 v8 v22 wr => ∃ k : Nat, k ≤ S.length ∧ v22 = .int .i64 (k : Nat) ∧ ∃ va vk, v6 = .slice va k vk ∧ Hid (wr.ownsRow w1.heap.size 3 1 (.slice va k vk) k (ics (szF S') k)) ∧ Hid (Below w1.heap.size w1 wr)) (fun _ _ v22 _ => S.length - (intOf v22).toNat)
 case atStart => exact ⟨0, by omega, rfl, none, 0, rfl, OW0, KW0⟩
 case round =>
  clear KW0 OW0
  obtain ⟨k, hk, rfl, va, vk, rfl, OW, KB⟩ := hrel
  by_cases h : k < S.length
  ·have e1 : decide ((k : Int) < ((S.length : Nat) : Int)) = true := by simpa using h
   have e1n : decide (k < S.length) = true := by simpa using h
   have ix := fun W => ixSq gc S.length cap k h W
   have HR2 := Lib.hid (HTR.out.below KB.out hg0)
   have x0 := HR2.out.c0 k (by omega)
   have x1 := HR2.out.c1 k (by omega)
   have x2 := HR2.out.c2 k (by omega)
   simp only [Nat.zero_add] at x0 x1 x2
   obtain ⟨q, hq⟩ : ∃ q, q = S'.getD k default := ⟨_, rfl⟩
   rw [← hq] at x0 x1 x2
   have HQ : Hid (ics (szF S') k ++ [.int .i64 q.c] = ics (szF S') (k + 1)) := Lib.hid (by rw [← ics_succ, hq]; rfl)
   clear hq
   go_upto_region 8 with (fail)
   have KB := Lib.hid (KB.out.alloc KB.out.size (.cells #[.int .i64 q.a, .int .i64 q.b, .int .i64 q.c] 47))
   have OW := Lib.hid (OW.out.alloc (.cells #[.int .i64 q.a, .int .i64 q.b, .int .i64 q.c] 47))
   have y2 : (wr.alloc (.cells #[.int .i64 q.a, .int .i64 q.b, .int .i64 q.c] 47)).cell? ⟨wr.heap.size, 2, none⟩ = some (.int .i64 q.c) := by simp [go_sem]
   generalize wr.alloc (.cells #[.int .i64 q.a, .int .i64 q.b, .int .i64 q.c] 47) = w2 at KB OW y2 ⊢
   obtain ⟨sb, hsb⟩ : ∃ sb, sb = wr.heap.size := ⟨_, rfl⟩
   rw [← hsb] at y2 ⊢
   clear hsb x0 x1 x2 ix HR2
   have HSZ := Lib.hid KB.out.size
   have HBK := Lib.hid OW.out.lt
   have HSW := Lib.hid KW.out.size
   go_wp2_with (at_builtin; refine wpList_append_own _ rfl (.tmp 26) (.tmp 29) 22 rfl w1.heap.size 3 i0 (.int .i64 0) 1 8 Tryz.underlying22 hinf hz0 hz1 hz2 rfl (by decide) (.slice va k vk) k (ics (szF S') k) rfl (OW.out.alloc _) ⟨w2.heap.size, 0, none⟩ 1 1 [.int .i64 q.c] rfl rfl (new1 w2 (.int .i64 q.c) 3) (one1 _ rfl) (by unfold maxLen; omega) (by omega) (by simp; have := HSZ.out; have := HSW.out; omega) ?_; intro v' w5 hown hgrow _; rw [HQ.out] at hown; obtain ⟨va', vk', rfl⟩ := own_shape hown; have OW := Lib.hid hown; have KB := Lib.hid ((KB.out.alloc KB.out.size _).grown hgrow (by have := HSZ.out; simp; omega) (fun kk e => (HBK.out kk e).1)); clear hown hgrow)
   go_roundw
   case rel => exact ⟨k + 1, by omega, by go_num, va', vk', rfl, OW, KB⟩
   case measure => simp [intOf]; omega
  ·obtain rfl : k = S.length := by omega
   have e1 : decide (((S.length : Nat) : Int) < ((S.length : Nat) : Int)) = false := by simp
   go_wp2
   go_ret2
   exact ⟨va, vk, S', w1.heap.size, rfl, hls, HPM.out, HSO.out, KW.out.size, OW.out, KW.out.trans (KB.out.mono KW.out.size)⟩
end Go.Proofs.YtolkchkedieppaaGreat

/- cuts in another order; plain law. -/
namespace Go.Proofs.YtolkchkedieppaaGreat
open Go.RowKit
theorem ApT.symm {p q : Tr} (h : ApT p q) : ApT q p := by
 unfold ApT at *
 rcases h with h | h | h | h
 ·exact .inr (.inl h)
 ·exact .inl h
 ·exact .inr (.inr (.inr h))
 ·exact .inr (.inr (.inl h))
theorem sumC_perm {L M : List Tr} (p : L.Perm M) : sumC L = sumC M := by
 induction p with
 | nil => rfl
 | cons x _ ih => simp only [sumC, ih]
 | swap x y l => simp only [sumC]; omega
 | trans _ _ h1 h2 => exact h1.trans h2
theorem MkC.perm {L M : List Tr} {W H : Nat} (h : MkC L W H) (p : L.Perm M) : MkC M W H :=
 ⟨by rw [← p.length_eq]; exact h.pos, h.w1, h.h1, h.wb, h.hb, fun t ht => h.rg t (p.mem_iff.2 ht),
  (p.pairwise_iff (fun {a b} hab => hab.symm)).1 h.ap, by rw [← sumC_perm p]; exact h.ar,
  by obtain ⟨t, ht, e⟩ := h.mw; exact ⟨t, p.mem_iff.1 ht, e⟩, by obtain ⟨t, ht, e⟩ := h.mh; exact ⟨t, p.mem_iff.1 ht, e⟩⟩
theorem sqT_trSq : ∀ (L : List Tr), (∀ t, t ∈ L → 0 ≤ t.a ∧ 1 ≤ t.c) → (L.map trSq).map sqT = L
 | [], _ => rfl
 | t :: l, h => by
  have h1 := h t (by simp)
  simp only [List.map_cons]
  rw [sqT_trSq l (fun u hu => h u (by simp [hu]))]
  congr 1
  unfold sqT trSq
  rcases t with ⟨a, b, c⟩
  simp only at h1 ⊢
  congr 1 <;> omega
theorem MkC.sqT {L : List Tr} {W H : Nat} (h : MkC L W H) : (L.map trSq).map sqT = L := sqT_trSq L (fun t ht => ⟨(h.rg t ht).1, (h.rg t ht).2.2.1⟩)
theorem MkC.sz {L : List Tr} {W H : Nat} (h : MkC L W H) : ∀ s ∈ szL L, 1 ≤ s ∧ s ≤ 1000 := fun s hs => by
 simp only [szL, List.mem_map] at hs
 obtain ⟨t, ht, rfl⟩ := hs
 have := h.rg t ht
 have := h.wb
 omega
theorem ics_congr {f g : Nat → Int} : ∀ n, (∀ i, i < n → f i = g i) → ics f n = ics g n
 | 0, _ => rfl
 | n + 1, h => by rw [← ics_succ, ← ics_succ, ics_congr n (fun i hi => h i (by omega)), h n (by omega)]
end Go.Proofs.YtolkchkedieppaaGreat

/- parts of a cut that are rectangles; plain law. -/
namespace Go.Proofs.YtolkchkedieppaaGreat
open Go.RowKit
def InR (x0 y0 x1 y1 : Int) (t : Tr) : Prop := x0 ≤ t.a ∧ t.a + t.c ≤ x1 ∧ y0 ≤ t.b ∧ t.b + t.c ≤ y1
def OutR (x0 y0 x1 y1 : Int) (t : Tr) : Prop := t.a + t.c ≤ x0 ∨ x1 ≤ t.a ∨ t.b + t.c ≤ y0 ∨ y1 ≤ t.b
instance (a b c d : Int) (t : Tr) : Decidable (InR a b c d t) := by unfold InR; infer_instance
instance (a b c d : Int) (t : Tr) : Decidable (OutR a b c d t) := by unfold OutR; infer_instance
end Go.Proofs.YtolkchkedieppaaGreat

/- hide.Measure of a cut. -/
namespace Go.Proofs.YtolkchkedieppaaGreat
open Go.RowKit
attribute [local go_sem ↓] Go.wp_at_zero Go.wp_at_succ
set_option maxHeartbeats 4000000 in
set_option maxRecDepth 100000 in
theorem measure_good (g0 c0 : Nat) (S : List Tr) (w : World) (hS : TrR w g0 0 S) (hg : g0 < w.heap.size) (hc : S.length ≤ c0) (hC : CutOK S) :
  Calls Tryz.prog 30 #[.slice (some ⟨g0, 0, none⟩) S.length c0] w fun e w' => e = .returned (.tuple #[.int .i64 (wdT S S.length), .int .i64 (htT S S.length), .int .i64 0]) ∧ Below w.heap.size w w' := by
 have hcon := read_good g0 c0 S w hS hg hc hC
 clear hS hg hc hC
 go_enter Tryz.func30, Tryz.ntmps30
 go_upto_region 4 with (go_at_call 54; (with_reducible refine hcon.mono ?_); rintro e w1 ⟨bp, gc, cap, S', rfl, hl, hp, hs, h0, h1, h2, hr, hg, hb, hK⟩; have KW := Lib.hid hK; clear hl hp hs hr hK)
 obtain ⟨W, hW⟩ : ∃ W, W = wdT S S.length := ⟨_, rfl⟩
 obtain ⟨H, hH⟩ : ∃ H, H = htT S S.length := ⟨_, rfl⟩
 rw [← hW] at h1
 rw [← hH] at h2
 have HWH := Lib.hid (And.intro hW hH)
 clear hcon hW hH
 go_quiet (fail)
 go_wp2
 go_ret3
 obtain ⟨rfl, rfl⟩ := HWH.out
 first | exact ⟨rfl, KW.out⟩ | exact ⟨rfl, KW.out.drew⟩ | exact ⟨rfl, KW.out.trans ((Drawn.of _ _).below _)⟩
end Go.Proofs.YtolkchkedieppaaGreat

/- A region that draws its order and whose last operation waits for all others: the others first, by the held law, the last one behind them. -/
namespace Go.Proofs.YtolkchkedieppaaGreat
open Go
/-- operation i of a region: its edges lead back, so does its guard, and it is waited for, if it is not the last one -/
def lastAt (ops : Array Oper) (i : Nat) : Bool :=
 match ops[i]? with
 | none => false
 | some (x : Oper) => x.after.all (fun e => decide (e.on < i)) && (match x.guard with | none => true | some (g, _) => decide (g < i)) &&
   (decide (i + 1 = ops.size) || (List.range ops.size).any (fun j => match ops[j]? with | some (y : Oper) => y.after.any (fun e => Region.binds .any e && decide (e.on = i)) | none => false))
def lastB (ops : Array Oper) : Bool := (List.range ops.size).all (lastAt ops)
section
variable {P : Program} {pre : Array Oper} {o : Oper} {Q : Exit → Act → World → Prop}
theorem lastB_spec (h : lastB (pre.push o) = true) (i : Nat) (hi : i < pre.size + 1) :
  ∃ x : Oper, (pre.push o)[i]? = some x ∧ (∀ e ∈ x.after, e.on < i) ∧ (∀ g b, x.guard = some (g, b) → g < i) ∧
   (i + 1 = pre.size + 1 ∨ ∃ (j : Nat) (y : Oper), (pre.push o)[j]? = some y ∧ ∃ e ∈ y.after, Region.binds .any e = true ∧ e.on = i) := by
 unfold lastB at h
 rw [List.all_eq_true] at h
 have h1 := h i (by simpa using hi)
 unfold lastAt at h1
 split at h1
 ·cases h1
 ·rename_i x hx
  simp only [Bool.and_eq_true, Bool.or_eq_true, decide_eq_true_eq, List.any_eq_true, Array.all_eq_true_iff_forall_mem] at h1
  obtain ⟨⟨h2, h3⟩, h4⟩ := h1
  refine ⟨x, hx, h2, fun g b hg => ?_, ?_⟩
  ·rw [hg] at h3; simpa using h3
  ·rcases h4 with h4 | ⟨j, _, h5⟩
   ·left; simpa using h4
   ·right
    split at h5
    ·rename_i y hy
     rw [Array.any_eq_true'] at h5; simp only [Bool.and_eq_true, decide_eq_true_eq] at h5
     obtain ⟨e, he, h6, h7⟩ := h5
     exact ⟨j, y, hy, e, he, h6, h7⟩
    ·cases h5
theorem push_get (i : Nat) (hi : i < pre.size) : (pre.push o)[i]? = pre[i]? := by
 rw [Array.getElem?_push, if_neg (by omega)]
theorem getD_push (L : Array Bool) (c d : Bool) (i : Nat) (hi : i < L.size) : (L.push c).getD i d = L.getD i d := by
 simp [Array.getD, hi, Nat.lt_succ_of_lt hi, Array.getElem_push]
theorem getD_last (L : Array Bool) (c d : Bool) : (L.push c).getD L.size d = c := by
 simp [Array.getD]
theorem getD_in (L : Array Bool) (i : Nat) (hi : i < L.size) (c d : Bool) : L.getD i c = L.getD i d := by
 simp [Array.getD, hi]
theorem getD_ne (L : Array Bool) (i k : Nat) (c d : Bool) (h : k ≠ i) : (L.setIfInBounds i c).getD k d = L.getD k d := by
 by_cases e : k < L.size
 ·simp [Array.getD, e, Array.getElem_setIfInBounds, Ne.symm h]
 ·simp [Array.getD, e]
theorem set_last (L : Array Bool) (n : Nat) (h : L.size = n) : (L.push false).setIfInBounds n true = L.push true := by
 apply Array.ext_getElem?
 intro k
 rw [Array.getElem?_setIfInBounds, Array.getElem?_push, Array.getElem?_push]
 by_cases e : n = k
 ·subst e; subst h; simp
 ·rw [if_neg e, if_neg (by omega), if_neg (by omega)]
theorem set_early (L : Array Bool) (i : Nat) (h : i < L.size) : (L.push false).setIfInBounds i true = (L.setIfInBounds i true).push false := by
 apply Array.ext_getElem?
 intro k
 rw [Array.getElem?_setIfInBounds, Array.getElem?_push, Array.getElem?_push, Array.getElem?_setIfInBounds]
 by_cases e : i = k
 ·subst e
  simp [h, Nat.lt_succ_of_lt h, Nat.ne_of_lt h]
 ·rw [if_neg e, if_neg e]
  simp
/-- what is listed is listed with all that it waits for -/
def ClL (pre : Array Oper) (L : Array Bool) : Prop := ∀ j x, L.getD j false = true → pre[j]? = some x → ∀ e ∈ x.after, Region.binds .any e = true → L.getD e.on false = true
theorem clL_set {L : Array Bool} (h : ClL pre L) {i : Nat} (hi : i ∈ Region.ready .any pre L) : ClL pre (L.setIfInBounds i true) := by
 obtain ⟨hu, x, hx, hall⟩ := mem_ready.1 hi
 have key : ∀ k, L.getD k false = true → (L.setIfInBounds i true).getD k false = true := fun k hk => by
  by_cases e : k = i
  ·subst e
   have : k < L.size := by
    refine Nat.lt_of_not_le (fun hn => ?_)
    simp [Array.getD, Nat.not_lt.2 hn] at hk
   simp [Array.getD, this]
  ·rw [getD_ne _ _ _ _ _ e]; exact hk
 intro j y hj hy e he hb
 by_cases ej : j = i
 ·subst ej
  rw [hx] at hy
  injection hy with hy
  subst hy
  exact key _ (hall e he hb)
 ·rw [getD_ne _ _ _ _ _ ej] at hj
  exact key _ (h j y hj hy e he hb)
theorem ready_push (hB : lastB (pre.push o) = true) {L : Array Bool} (hL : L.size = pre.size) (c : Bool) (i : Nat) (hi : i < pre.size) : i ∈ Region.ready .any (pre.push o) (L.push c) ↔ i ∈ Region.ready .any pre L := by
 obtain ⟨x, hx, h1, -, -⟩ := lastB_spec hB i (by omega)
 rw [mem_ready, mem_ready, getD_push L c true i (by omega), push_get i hi]
 rw [push_get i hi] at hx
 constructor
 ·rintro ⟨a, y, hy, h⟩
  refine ⟨a, y, hy, fun e he hb => ?_⟩
  rw [hx] at hy; injection hy with hy; subst hy
  have := h1 e he
  rw [← getD_push L c false e.on (by omega)]; exact h e he hb
 ·rintro ⟨a, y, hy, h⟩
  refine ⟨a, y, hy, fun e he hb => ?_⟩
  rw [hx] at hy; injection hy with hy; subst hy
  have := h1 e he
  rw [getD_push L c false e.on (by omega)]; exact h e he hb
theorem last_not (hB : lastB (pre.push o) = true) {L : Array Bool} (hL : L.size = pre.size) (hC : ClL pre L) (hn : pre.size ∈ Region.ready .any (pre.push o) (L.push false)) : ∀ d i, i + d + 1 = pre.size → L.getD i false = true := by
 obtain ⟨-, x, hx, hall⟩ := mem_ready.1 hn
 intro d
 induction d using Nat.strongRecOn with
 | ind d ih =>
  intro i hi
  obtain ⟨y, hy, -, -, h4⟩ := lastB_spec hB i (by omega)
  rcases h4 with h4 | ⟨j, z, hz, e, he, hb, hei⟩
  ·omega
  ·have hjs : j < pre.size + 1 := by
    have := (Array.getElem?_eq_some_iff.1 hz).1
    simpa using this
   obtain ⟨z', hz', h5, -, -⟩ := lastB_spec hB j hjs
   rw [hz] at hz'; injection hz' with hz'; subst hz'
   have hij := h5 e he
   rw [hei] at hij
   by_cases ej : j = pre.size
   ·subst ej
    rw [hx] at hz; injection hz with hz; subst hz
    have := hall e he hb
    rw [hei, getD_push L false false i (by omega)] at this
    exact this
   ·have hjl := ih (pre.size - j - 1) (by omega) j (by omega)
    rw [push_get j (by omega)] at hz
    have := hC j z hjl hz e he hb
    rw [hei] at this; exact this
theorem none_left (hB : lastB (pre.push o) = true) {L : Array Bool} (hL : L.size = pre.size) (hr : Region.ready .any pre L = []) : ∀ i, i < pre.size → L.getD i false = true := by
 intro i
 induction i using Nat.strongRecOn with
 | ind i ih =>
  intro hi
  obtain ⟨x, hx, h1, -, -⟩ := lastB_spec hB i (by omega)
  rw [push_get i hi] at hx
  rcases hl : L.getD i false with _ | _
  ·have : i ∈ Region.ready .any pre L := mem_ready.2 ⟨by rw [getD_in L i (by omega) true false]; exact hl, x, hx, fun e he hb => ih e.on (h1 e he) (by have := h1 e he; omega)⟩
   rw [hr] at this
   cases this
  ·rfl
theorem all_then (hB : lastB (pre.push o) = true) {L : Array Bool} (hL : L.size = pre.size) (hall : ∀ i, i < pre.size → L.getD i false = true) :
  (∀ j, j ∈ Region.ready .any (pre.push o) (L.push false) ↔ j = pre.size) ∧ Region.ready .any (pre.push o) (L.push true) = [] := by
 refine ⟨fun j => ⟨fun hj => ?_, fun hj => ?_⟩, ?_⟩
 ·obtain ⟨hu, x, hx, _⟩ := mem_ready.1 hj
  have hjs : j < pre.size + 1 := by simpa using (Array.getElem?_eq_some_iff.1 hx).1
  by_cases e : j = pre.size
  ·exact e
  ·have h1 := hall j (by omega)
   rw [getD_push L false true j (by omega), getD_in L j (by omega) true false, h1] at hu
   cases hu
 ·subst hj
  obtain ⟨x, hx, h1, -, -⟩ := lastB_spec hB pre.size (by omega)
  refine mem_ready.2 ⟨by rw [← hL, getD_last], x, hx, fun e he hb => ?_⟩
  have := h1 e he
  rw [getD_push L false false e.on (by omega)]
  exact hall _ this
 ·refine List.eq_nil_iff_forall_not_mem.2 (fun j hj => ?_)
  obtain ⟨hu, x, hx, _⟩ := mem_ready.1 hj
  have hjs : j < pre.size + 1 := by simpa using (Array.getElem?_eq_some_iff.1 hx).1
  by_cases e : j = pre.size
  ·subst e
   rw [← hL, getD_last] at hu
   cases hu
  ·have h1 := hall j (by omega)
   rw [getD_push L true true j (by omega), getD_in L j (by omega) true false, h1] at hu
   cases hu
/-- the last operation, behind all others -/
def LastQ (P : Program) (ops : Array Oper) (n : Nat) (Q : Exit → Act → World → Prop) : Exit → Act → World → Prop := Exit.then (wpOp P ops Q n (Q .normal)) Q
theorem letsOut_last {ops : Array Oper} {n : Nat} (h : LetsOut (LastQ P ops n Q)) : LetsOut Q := h
theorem oper_last {x : Oper} {ops : Array Oper} {n : Nat} {K : Act → World → Prop} {a : Act} {w : World} (h : x.wp P a w K (LastQ P ops n Q)) : x.wp P a w K Q := by
 unfold Oper.wp at *
 generalize (execOp a.eval x).run P w = r at *
 cases r with
 | ok m w' => cases m <;> exact h
 | halt e w' => cases e <;> exact h
theorem yielded_push (a : Act) (g : Nat) (hg : g < pre.size) : yielded (pre.push o) a.tmps g = yielded pre a.tmps g := by
 unfold yielded; rw [push_get g hg]
theorem wanted_push {x : Oper} (a : Act) (hg : ∀ g b, x.guard = some (g, b) → g < pre.size) : Region.wanted x (yielded (pre.push o) a.tmps) = Region.wanted x (yielded pre a.tmps) := by
 unfold Region.wanted
 split
 ·rfl
 ·rename_i g b e
  rw [yielded_push a g (hg g b e)]
theorem wpOp_last (hB : lastB (pre.push o) = true) {ops : Array Oper} {n i : Nat} (hi : i < pre.size) {K K' : Act → World → Prop} (hK : ∀ a w, K a w → K' a w) {a : Act} {w : World} (h : wpOp P pre (LastQ P ops n Q) i K a w) : wpOp P (pre.push o) Q i K' a w := by
 obtain ⟨x, hx, -, h3, -⟩ := lastB_spec hB i (by omega)
 have hx' := hx
 rw [push_get i hi] at hx'
 unfold wpOp at *
 rw [hx]
 rw [hx'] at h
 simp only at h ⊢
 rw [wanted_push a (fun g b e => Nat.lt_trans (h3 g b e) hi)]
 split
 ·rename_i hw
  rw [if_pos hw] at h
  rcases h with h | ⟨h1, h2⟩
  ·exact .inl (oper_last (Oper.wp_mono hK h))
  ·exact .inr ⟨h1, letsOut_last h2⟩
 ·rename_i hw
  rw [if_neg hw] at h
  exact hK _ _ h
theorem wpAny_last (hB : lastB (pre.push o) = true) : ∀ (fuel : Nat) (L : Array Bool) (a : Act) (w : World), L.size = pre.size → ClL pre L →
  wpAny P .any pre (LastQ P (pre.push o) pre.size Q) fuel L a w → wpAny P .any (pre.push o) Q (fuel + 1) (L.push false) a w := by
 have fin : ∀ (fuel : Nat) (L : Array Bool) (a : Act) (w : World), L.size = pre.size → Region.ready .any pre L = [] → LastQ P (pre.push o) pre.size Q .normal a w → wpAny P .any (pre.push o) Q (fuel + 1) (L.push false) a w := by
  intro fuel L a w hL hr hq
  obtain ⟨g1, g2⟩ := all_then hB hL (none_left hB hL hr)
  refine ⟨fun h => ?_, fun i hi => ?_⟩
  ·have := (g1 pre.size).2 rfl
   rw [h] at this; cases this
  ·have e := (g1 i).1 hi
   subst e
   have hs := set_last L pre.size hL
   rw [hs]
   refine wpOp_mono (fun a w h => ?_) (show wpOp P (pre.push o) Q pre.size (Q .normal) a w from hq)
   cases fuel with
   | zero => exact ⟨g2, h⟩
   | succ f => exact ⟨fun _ => h, fun i hi => by rw [g2] at hi; cases hi⟩
 intro fuel
 induction fuel with
 | zero => intro L a w hL hC h; exact fin 0 L a w hL h.1 h.2
 | succ fuel ih =>
  intro L a w hL hC h
  by_cases hr : Region.ready .any pre L = []
  ·exact fin (fuel + 1) L a w hL hr (h.1 hr)
  ·refine ⟨fun h2 => ?_, fun i hi => ?_⟩
   ·obtain ⟨j, hj⟩ := List.exists_mem_of_ne_nil _ hr
    have hjs : j < pre.size := by
     obtain ⟨_, x, hx, _⟩ := mem_ready.1 hj
     exact (Array.getElem?_eq_some_iff.1 hx).1
    have := (ready_push hB hL false j hjs).2 hj
    rw [h2] at this; cases this
   ·have his : i < pre.size := by
     obtain ⟨_, x, hx, _⟩ := mem_ready.1 hi
     have hjs : i < pre.size + 1 := by simpa using (Array.getElem?_eq_some_iff.1 hx).1
     refine Nat.lt_of_le_of_ne (by omega) (fun e => ?_)
     subst e
     have hall := last_not hB hL hC hi
     refine hr (List.eq_nil_iff_forall_not_mem.2 (fun j hj => ?_))
     obtain ⟨hu, y, hy, _⟩ := mem_ready.1 hj
     have hjs : j < pre.size := (Array.getElem?_eq_some_iff.1 hy).1
     have h1 := hall (pre.size - j - 1) j (by omega)
     rw [getD_in L j (by omega) true false, h1] at hu
     cases hu
    have hi' := (ready_push hB hL false i his).1 hi
    have hs := set_early L i (by omega)
    rw [hs]
    exact wpOp_last hB his (fun a w h3 => ih _ _ _ (by simpa using hL) (clL_set hC hi') h3) (h.2 i hi')
/-- the beginning: all operations but the last one, which waits for all -/
theorem wp_region_last {ops : Array Oper} {S : World → Prop} {id : Nat} {a : Act} {w : World} (hm : P.follows .mixedOrders = true) (hB : (decide (0 < ops.size) && lastB ops) = true) (hS : S w.drew)
  (h : S w.drew → wpAnyH P .any ops.pop (LastQ P ops ops.pop.size Q) S ops.pop.size (Array.replicate ops.pop.size false) a w.drew) : (Code.region id ops true).wp P Q a w := by
 rw [Bool.and_eq_true, decide_eq_true_eq] at hB
 obtain ⟨h0, hB⟩ := hB
 obtain ⟨pre, o, rfl⟩ : ∃ pre o, ops = Array.push pre o := Array.eq_push_of_size_ne_zero (by omega)
 rw [Array.pop_push] at h
 refine wp_region_any hm ?_
 have h1 := wpAny_last hB pre.size (Array.replicate pre.size false) a w.drew (by simp) (fun j x hj => by
  exfalso
  simp [Array.getD] at hj) (wpAny_of_held _ _ _ _ (h hS))
 have e : (Array.replicate pre.size false).push false = Array.replicate (pre.push o).size false := by simp [Array.replicate_succ]
 rw [e] at h1
 simpa using h1
/-- the last operation's step -/
theorem lastQ_step {n : Nat} {ops : Array Oper} {x : Oper} {a : Act} {w : World} (ho : ops[n]? = some x)
  (h : ∀ K : Act → World → Prop, Shut (∀ a w, Q .normal a w → K a w) → if Region.wanted x (yielded ops a.tmps) = true then Oper.wp P x a w K Q else K (a.put x.dst undef) w) : LastQ P ops n Q .normal a w :=
 wpOp_step ho (fun K' hK => h K' (fun a w hq => hK a w hq))
end
end Go.Proofs.YtolkchkedieppaaGreat
