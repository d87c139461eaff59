/- Code of package hide at a valid cut. -/
import Derived.Test.YtolkchkedieppaaGreatVRdB
import Derived.Test.YtolkchkedieppaaGreatVLayB
import Derived.Test.YtolkchkedieppaaGreatVLnA
import Derived.Test.YtolkchkedieppaaGreatVRLay
import Derived.Test.YtolkchkedieppaaGreatVOrd
import Derived.Test.YtolkchkedieppaaGreatVOwn
set_option linter.unusedVariables false
set_option linter.unusedSimpArgs false
namespace Go.Proofs.YtolkchkedieppaaGreat
open Go.RowKit
attribute [local go_sem ↓] Go.wp_at_zero Go.wp_at_succ
/-- sides of the squares -/
def szF (S : List Tr) (i : Nat) : Int := (S.getD i default).c
set_option maxHeartbeats 4000000 in
set_option maxRecDepth 100000 in
theorem code_good (g0 c0 : Nat) (S : List Tr) (w : World) (hS : TrR w g0 0 S) (hg : g0 < w.heap.size) (hc : S.length ≤ c0) (hC : CutOK S) :
  Calls Tryz.prog 31 #[.slice (some ⟨g0, 0, none⟩) S.length c0] w fun e w' => ∃ va vk S' B, e = .returned (.tuple #[.slice va S.length vk, .int .i64 0]) ∧ S'.length = S.length ∧ S.Perm S' ∧ S'.Pairwise (fun a b => ¬ ltS b a) ∧
   w.heap.size ≤ B ∧ w'.ownsRow B 3 1 (.slice va S.length vk) S.length (ics (szF S') S.length) ∧ Below w.heap.size w w' := by
 obtain ⟨i0, hinf, hz0, hz1, hz2⟩ := info_parts infoI
 have hcon := read_good g0 c0 S w hS hg hc hC
 have hn24 := hC.few
 clear hS hg hc hC
 go_enter Tryz.func31, Tryz.ntmps31
 go_wp2_with (go_at_call 54; (with_reducible refine hcon.mono ?_); rintro e w1 ⟨bp, gc, cap, S', rfl, hl, hp, hs, h0, h1, h2, hr, hg, hb, hK⟩; have HL := Lib.hid hl; have HPM := Lib.hid hp; have HSO := Lib.hid hs; have HTR := Lib.hid hr; have KW := Lib.hid hK; clear hl hp hs hr hK)
 clear h1 h2 hcon
 have HRB := Lib.hid hg
 have OW0 : Hid (w1.ownsRow w1.heap.size 3 1 (.slice none 0 0) 0 (ics (szF S') 0)) := Lib.hid (World.ownsRow_nil _ _ _ _)
 have KW0 := Lib.hid (Below.refl w1.heap.size w1)
 have hb0 := hb
 have hg0 := hg
 have hls := HL.out
 go_loopw [6, 8, 22] (fun v6 v8 v22 wr => ∃ k : Nat, k ≤ S.length ∧ v22 = .int .i64 (k : Nat) ∧ ∃ va vk, v6 = .slice va k vk ∧ Hid (wr.ownsRow w1.heap.size 3 1 (.slice va k vk) k (ics (szF S') k)) ∧ Hid (Below w1.heap.size w1 wr)) (fun _ _ v22 _ => S.length - (intOf v22).toNat)
 case atStart => exact ⟨0, by omega, rfl, none, 0, rfl, OW0, KW0⟩
 case round =>
  clear KW0 OW0
  obtain ⟨k, hk, rfl, va, vk, rfl, OW, KB⟩ := hrel
  by_cases h : k < S.length
  ·have e1 : decide ((k : Int) < ((S.length : Nat) : Int)) = true := by simpa using h
   have e1n : decide (k < S.length) = true := by simpa using h
   have ix := fun W => ixSq gc S.length cap k h W
   have HR2 := Lib.hid (HTR.out.below KB.out hg0)
   have x0 := HR2.out.c0 k (by omega)
   have x1 := HR2.out.c1 k (by omega)
   have x2 := HR2.out.c2 k (by omega)
   simp only [Nat.zero_add] at x0 x1 x2
   obtain ⟨q, hq⟩ : ∃ q, q = S'.getD k default := ⟨_, rfl⟩
   rw [← hq] at x0 x1 x2
   have HQ : Hid (ics (szF S') k ++ [.int .i64 q.c] = ics (szF S') (k + 1)) := Lib.hid (by rw [← ics_succ, hq]; rfl)
   clear hq
   go_upto_region 8 with (fail)
   have KB := Lib.hid (KB.out.alloc KB.out.size (.cells #[.int .i64 q.a, .int .i64 q.b, .int .i64 q.c] 47))
   have OW := Lib.hid (OW.out.alloc (.cells #[.int .i64 q.a, .int .i64 q.b, .int .i64 q.c] 47))
   have y2 : (wr.alloc (.cells #[.int .i64 q.a, .int .i64 q.b, .int .i64 q.c] 47)).cell? ⟨wr.heap.size, 2, none⟩ = some (.int .i64 q.c) := by simp [go_sem]
   generalize wr.alloc (.cells #[.int .i64 q.a, .int .i64 q.b, .int .i64 q.c] 47) = w2 at KB OW y2 ⊢
   obtain ⟨sb, hsb⟩ : ∃ sb, sb = wr.heap.size := ⟨_, rfl⟩
   rw [← hsb] at y2 ⊢
   clear hsb x0 x1 x2 ix HR2
   have HSZ := Lib.hid KB.out.size
   have HBK := Lib.hid OW.out.lt
   have HSW := Lib.hid KW.out.size
   go_wp2_with (at_builtin; refine wpList_append_own _ rfl (.tmp 26) (.tmp 29) 22 rfl w1.heap.size 3 i0 (.int .i64 0) 1 8 Tryz.underlying22 hinf hz0 hz1 hz2 rfl (by decide) (.slice va k vk) k (ics (szF S') k) rfl (OW.out.alloc _) ⟨w2.heap.size, 0, none⟩ 1 1 [.int .i64 q.c] rfl rfl (new1 w2 (.int .i64 q.c) 3) (one1 _ rfl) (by unfold maxLen; omega) (by omega) (by simp; have := HSZ.out; have := HSW.out; omega) ?_; intro v' w5 hown hgrow _; rw [HQ.out] at hown; obtain ⟨va', vk', rfl⟩ := own_shape hown; have OW := Lib.hid hown; have KB := Lib.hid ((KB.out.alloc KB.out.size _).grown hgrow (by have := HSZ.out; simp; omega) (fun kk e => (HBK.out kk e).1)); clear hown hgrow)
   go_roundw
   case rel => exact ⟨k + 1, by omega, by go_num, va', vk', rfl, OW, KB⟩
   case measure => simp [intOf]; omega
  ·obtain rfl : k = S.length := by omega
   have e1 : decide (((S.length : Nat) : Int) < ((S.length : Nat) : Int)) = false := by simp
   go_wp2
   go_ret2
   exact ⟨va, vk, S', w1.heap.size, rfl, hls, HPM.out, HSO.out, KW.out.size, OW.out, KW.out.trans (KB.out.mono KW.out.size)⟩
end Go.Proofs.YtolkchkedieppaaGreat

/- cuts in another order; plain law. -/
namespace Go.Proofs.YtolkchkedieppaaGreat
open Go.RowKit
theorem ApT.symm {p q : Tr} (h : ApT p q) : ApT q p := by
 unfold ApT at *
 rcases h with h | h | h | h
 ·exact .inr (.inl h)
 ·exact .inl h
 ·exact .inr (.inr (.inr h))
 ·exact .inr (.inr (.inl h))
theorem pw_mem {α : Type} {R : α → α → Prop} (hR : ∀ a b, R a b → R b a) {l : List α} (h : l.Pairwise R) {x y : α} (hx : x ∈ l) (hy : y ∈ l) (hne : x ≠ y) : R x y := by
 induction h with
 | nil => simp at hx
 | @cons a l h1 _ ih =>
  rcases List.mem_cons.1 hx with rfl | hx'
  ·rcases List.mem_cons.1 hy with rfl | hy'
   ·exact absurd rfl hne
   ·exact h1 _ hy'
  ·rcases List.mem_cons.1 hy with rfl | hy'
   ·exact hR _ _ (h1 _ hx')
   ·exact ih hx' hy'
theorem MkC.uniq {L : List Tr} {W H : Nat} (h : MkC L W H) {x y : Tr} (hx : x ∈ L) (hy : y ∈ L) (h1 : ¬ ltS x y) (h2 : ¬ ltS y x) : x = y := by
 by_cases e : x = y
 ·exact e
 ·have ha := pw_mem (fun a b q => ApT.symm q) h.ap hx hy e
  have r1 := h.rg x hx
  have r2 := h.rg y hy
  unfold ApT at ha
  unfold ltS at h1 h2
  omega
theorem MkC.sorted_eq {L A B : List Tr} {W H : Nat} (h : MkC L W H) (p1 : L.Perm A) (p2 : L.Perm B) (h1 : A.Pairwise (fun a b => ¬ ltS b a)) (h2 : B.Pairwise (fun a b => ¬ ltS b a)) : A = B :=
 perm_sorted_uniq A B (p1.symm.trans p2) h1 h2 (fun x hx y hy q1 q2 => h.uniq (p1.mem_iff.2 hx) (p1.mem_iff.2 hy) q1 q2)
theorem MkC.ord_eq {L A : List Tr} {W H : Nat} (h : MkC L W H) (p1 : L.Perm A) (h1 : A.Pairwise (fun a b => ¬ ltS b a)) : ordL L L.length = A := by
 have p2 := ordL_perm L L.length (Nat.le_refl _)
 rw [List.take_length] at p2
 exact h.sorted_eq p2 p1 (ordL_sorted L _) h1
end Go.Proofs.YtolkchkedieppaaGreat

/- lines in canonical form; plain law. -/
namespace Go.Proofs.YtolkchkedieppaaGreat
open Go.RowKit
/-- one line (y, from, to) before another, not touching -/
def SepL (p q : Tr) : Prop := p.a < q.a ∨ (p.a = q.a ∧ p.c < q.b)
/-- lines apart, in order, that cover these cells -/
structure CanL (A : List Tr) (cov : Int → Int → Prop) : Prop where
 sep : A.Pairwise SepL
 ne : ∀ l, l ∈ A → l.b < l.c
 cells : ∀ y x, (∃ l, l ∈ A ∧ l.a = y ∧ l.b ≤ x ∧ x < l.c) ↔ cov y x
theorem sorted_ext {α : Type} {R : α → α → Prop} (has : ∀ a b, R a b → ¬ R b a) : ∀ (A B : List α), A.Pairwise R → B.Pairwise R → (∀ x, x ∈ A ↔ x ∈ B) → A = B
 | [], [], _, _, _ => rfl
 | [], b :: B, _, _, h => by have := (h b).2 (by simp); simp at this
 | a :: A, [], _, _, h => by have := (h a).1 (by simp); simp at this
 | a :: A, b :: B, hA, hB, h => by
  rw [List.pairwise_cons] at hA hB
  have e : a = b := by
   rcases List.mem_cons.1 ((h a).1 (by simp)) with e | h1
   ·exact e
   ·rcases List.mem_cons.1 ((h b).2 (by simp)) with e | h2
    ·exact e.symm
    ·exact absurd (hB.1 a h1) (has _ _ (hA.1 b h2))
  subst e
  congr 1
  refine sorted_ext has A B hA.2 hB.2 (fun x => ⟨fun hx => ?_, fun hx => ?_⟩)
  ·rcases List.mem_cons.1 ((h x).1 (by simp [hx])) with e | h1
   ·subst e; exact absurd (hA.1 x hx) (fun q => has _ _ q q)
   ·exact h1
  ·rcases List.mem_cons.1 ((h x).2 (by simp [hx])) with e | h1
   ·subst e; exact absurd (hB.1 x hx) (fun q => has _ _ q q)
   ·exact h1
theorem pw_two {α : Type} {R : α → α → Prop} {l : List α} (h : l.Pairwise R) {x y : α} (hx : x ∈ l) (hy : y ∈ l) (hne : x ≠ y) : R x y ∨ R y x :=
 pw_mem (R := fun a b => R a b ∨ R b a) (fun a b q => q.symm) (h.imp (fun {a b} q => .inl q)) hx hy hne
theorem CanL.mem {A B : List Tr} {cov : Int → Int → Prop} (hA : CanL A cov) (hB : CanL B cov) {l : Tr} (hl : l ∈ A) : l ∈ B := by
 have hn := hA.ne l hl
 obtain ⟨m, hm, e1, e2, e3⟩ := (hB.cells l.a l.b).2 ((hA.cells l.a l.b).1 ⟨l, hl, rfl, by omega, hn⟩)
 have hmn := hB.ne m hm
 have c1 : m.b = l.b := by
  refine Classical.byContradiction (fun hne => ?_)
  obtain ⟨k, hk, f1, f2, f3⟩ := (hA.cells l.a (l.b - 1)).2 ((hB.cells l.a (l.b - 1)).1 ⟨m, hm, e1, by omega, by omega⟩)
  have hkl : k ≠ l := fun e => by rw [e] at f2; omega
  rcases pw_two hA.sep hk hl hkl with q | q <;> unfold SepL at q <;> omega
 have c2 : m.c = l.c := by
  rcases Int.lt_trichotomy m.c l.c with h | h | h
  ·exfalso
   obtain ⟨k, hk, f1, f2, f3⟩ := (hB.cells l.a m.c).2 ((hA.cells l.a m.c).1 ⟨l, hl, rfl, by omega, h⟩)
   have hkl : k ≠ m := fun e => by rw [e] at f3; omega
   rcases pw_two hB.sep hk hm hkl with q | q <;> unfold SepL at q <;> omega
  ·exact h
  ·exfalso
   obtain ⟨k, hk, f1, f2, f3⟩ := (hA.cells l.a l.c).2 ((hB.cells l.a l.c).1 ⟨m, hm, e1, by omega, h⟩)
   have hkl : k ≠ l := fun e => by rw [e] at f3; omega
   rcases pw_two hA.sep hk hl hkl with q | q <;> unfold SepL at q <;> omega
 have e : m = l := by
  rcases m with ⟨a, b, c⟩
  rcases l with ⟨a', b', c'⟩
  simp only at e1 c1 c2
  subst e1 c1 c2
  rfl
 rw [← e]; exact hm
theorem CanL.uniq {A B : List Tr} {cov : Int → Int → Prop} (hA : CanL A cov) (hB : CanL B cov) : A = B := by
 have ord : ∀ {C : List Tr}, CanL C cov → C.Pairwise (fun p q => p.a < q.a ∨ (p.a = q.a ∧ p.b < q.b)) := fun {C} hC =>
  hC.sep.imp_of_mem (fun {p q} hp _ h => by
   have := hC.ne p hp
   unfold SepL at h
   omega)
 exact sorted_ext (fun p q h1 h2 => by omega) A B (ord hA) (ord hB) (fun x => ⟨fun h => hA.mem hB h, fun h => hB.mem hA h⟩)
end Go.Proofs.YtolkchkedieppaaGreat

/- lines joined (program) and swallowed (reference); plain law. -/
namespace Go.Proofs.YtolkchkedieppaaGreat
open Go.RowKit
def cellsL (A : List Tr) (y x : Int) : Prop := ∃ l, l ∈ A ∧ l.a = y ∧ l.b ≤ x ∧ x < l.c
/-- the cells of the edges of squares -/
def edgeC (S : List Tr) (y x : Int) : Prop := ∃ t, t ∈ S ∧ (t.b = y ∨ t.b + t.c = y) ∧ t.a ≤ x ∧ x < t.a + t.c
theorem CanL.congr {A : List Tr} {cov cov' : Int → Int → Prop} (h : CanL A cov) (e : ∀ y x, cov y x ↔ cov' y x) : CanL A cov' :=
 ⟨h.sep, h.ne, fun y x => (h.cells y x).trans (e y x)⟩
theorem cells_nil (y x : Int) : ¬ cellsL [] y x := fun ⟨l, h, _⟩ => by simp at h
theorem cells_app (A B : List Tr) (y x : Int) : cellsL (A ++ B) y x ↔ cellsL A y x ∨ cellsL B y x := by
 constructor
 ·rintro ⟨l, h, h2⟩
  rcases List.mem_append.1 h with h | h
  ·exact .inl ⟨l, h, h2⟩
  ·exact .inr ⟨l, h, h2⟩
 ·rintro (⟨l, h, h2⟩ | ⟨l, h, h2⟩)
  ·exact ⟨l, List.mem_append.2 (.inl h), h2⟩
  ·exact ⟨l, List.mem_append.2 (.inr h), h2⟩
theorem cells_cons (q : Tr) (A : List Tr) (y x : Int) : cellsL (q :: A) y x ↔ (q.a = y ∧ q.b ≤ x ∧ x < q.c) ∨ cellsL A y x := by
 constructor
 ·rintro ⟨l, h, h2⟩
  rcases List.mem_cons.1 h with rfl | h
  ·exact .inl h2
  ·exact .inr ⟨l, h, h2⟩
 ·rintro (h2 | ⟨l, h, h2⟩)
  ·exact ⟨q, by simp, h2⟩
  ·exact ⟨l, by simp [h], h2⟩
theorem cells_one (q : Tr) (y x : Int) : cellsL [q] y x ↔ (q.a = y ∧ q.b ≤ x ∧ x < q.c) :=
 (cells_cons q [] y x).trans ⟨fun h => h.elim id (fun h => absurd h (cells_nil y x)), .inl⟩
theorem cells_perm {A B : List Tr} (p : A.Perm B) (y x : Int) : cellsL A y x ↔ cellsL B y x :=
 ⟨fun ⟨l, h, h2⟩ => ⟨l, p.mem_iff.1 h, h2⟩, fun ⟨l, h, h2⟩ => ⟨l, p.mem_iff.2 h, h2⟩⟩
theorem edge_perm {A B : List Tr} (p : A.Perm B) (y x : Int) : edgeC A y x ↔ edgeC B y x :=
 ⟨fun ⟨l, h, h2⟩ => ⟨l, p.mem_iff.1 h, h2⟩, fun ⟨l, h, h2⟩ => ⟨l, p.mem_iff.2 h, h2⟩⟩
theorem take_succ_getS (S : List Tr) {k : Nat} (h : k < S.length) : S.take (k + 1) = S.take k ++ [S.getD k default] := by
 rw [List.take_add_one]; simp [h]
theorem edge_app (S : List Tr) (q : Tr) (y x : Int) : edgeC (S ++ [q]) y x ↔ edgeC S y x ∨ ((q.b = y ∨ q.b + q.c = y) ∧ q.a ≤ x ∧ x < q.a + q.c) := by
 constructor
 ·rintro ⟨l, h, h2⟩
  rcases List.mem_append.1 h with h | h
  ·exact .inl ⟨l, h, h2⟩
  ·rw [List.mem_singleton] at h
   subst h; exact .inr h2
 ·rintro (⟨l, h, h2⟩ | h2)
  ·exact ⟨l, List.mem_append.2 (.inl h), h2⟩
  ·exact ⟨q, by simp, h2⟩
theorem raw_cells (S : List Tr) (y x : Int) : ∀ k, k ≤ S.length → (cellsL (rawF S k) y x ↔ edgeC (S.take k) y x)
 | 0, _ => by
  simp only [rawF, List.take_zero]
  exact ⟨fun h => absurd h (cells_nil y x), fun ⟨l, h, _⟩ => by simp at h⟩
 | k + 1, hk => by
  rw [take_succ_getS S (by omega), edge_app, rawF, cells_app, raw_cells S y x k (by omega), cells_cons, cells_one]
  generalize S.getD k default = q
  simp only
  constructor
  ·rintro (h | h | h)
   ·exact .inl h
   ·exact .inr ⟨.inl h.1, h.2⟩
   ·exact .inr ⟨.inr h.1, h.2⟩
  ·rintro (h | ⟨h | h, h2⟩)
   ·exact .inl h
   ·exact .inr (.inl ⟨h, h2⟩)
   ·exact .inr (.inr ⟨h, h2⟩)
theorem raw_ne (S : List Tr) (hc : ∀ t, t ∈ S → 0 < t.c) : ∀ k, k ≤ S.length → ∀ l, l ∈ rawF S k → l.b < l.c
 | 0, _, l, h => by simp [rawF] at h
 | k + 1, hk, l, h => by
  rw [rawF] at h
  have hq := hc (S.getD k default) (by simp [show k < S.length by omega])
  rcases List.mem_append.1 h with h | h
  ·exact raw_ne S hc k (by omega) l h
  ·simp only [List.mem_cons, List.not_mem_nil, or_false] at h
   rcases h with rfl | rfl <;> simp only <;> omega
theorem jn_last (J0 : List Tr) (p l : Tr) : jn (J0 ++ [p]) l = if p.a = l.a ∧ l.b ≤ p.c then J0 ++ [⟨p.a, p.b, if p.c < l.c then l.c else p.c⟩] else J0 ++ [p] ++ [l] := by
 have e : (J0 ++ [p]).getD ((J0 ++ [p]).length - 1) default = p := by simp
 unfold jn
 rw [e]
 split
 ·simp
 ·rfl
theorem join_can (P : List Tr) (hs : P.Pairwise (fun a b => ¬ ltL b a)) (hne : ∀ l, l ∈ P → l.b < l.c) : ∀ k, k < P.length →
  ∃ J0 p, joinF P k = J0 ++ [p] ∧ CanL (J0 ++ [p]) (cellsL (P.take (k + 1))) ∧ p.a = (P.getD k default).a ∧ p.b ≤ (P.getD k default).b
 | 0, h => by
  refine ⟨[], P.getD 0 default, rfl, ?_, rfl, Int.le_refl _⟩
  have e : P.take 1 = [P.getD 0 default] := by have := take_succ_getS P h; simpa using this
  rw [e]
  exact ⟨by simp, fun l hl => hne l (by simp at hl; subst hl; simp [h]), fun y x => Iff.rfl⟩
 | k + 1, h => by
  obtain ⟨J0, p, e, hC, h1, h2⟩ := join_can P hs hne k (by omega)
  have hget := List.pairwise_iff_getElem.1 hs k (k + 1) (by omega) h (by omega)
  have hq : P.getD (k + 1) default ∈ P := by simp [h]
  have hqn := hne _ hq
  have g1 : P[k] = P.getD k default := by simp [show k < P.length by omega]
  have g2 : P[k + 1] = P.getD (k + 1) default := by simp [h]
  rw [g1, g2] at hget
  have hT := take_succ_getS P h
  simp only [joinF]
  rw [e, jn_last, hT]
  generalize P.getD (k + 1) default = q at hget hqn ⊢
  generalize P.getD k default = o at h1 h2 hget
  unfold ltL at hget
  have hpn := hC.ne p (by simp)
  have sp := hC.sep
  rw [List.pairwise_append] at sp
  have spp : ∀ r, r ∈ J0 → SepL r p := fun r hr => sp.2.2 r hr p (by simp)
  by_cases c : p.a = q.a ∧ q.b ≤ p.c
  ·rw [if_pos c]
   obtain ⟨m, hm⟩ : ∃ m, m = (if p.c < q.c then q.c else p.c) := ⟨_, rfl⟩
   rw [← hm]
   have hm2 : m = max p.c q.c := by rw [hm]; split <;> omega
   clear hm
   refine ⟨J0, _, rfl, ⟨?_, ?_, ?_⟩, c.1, by simp only; omega⟩
   ·rw [List.pairwise_append]
    refine ⟨sp.1, by simp, fun r hr s hs => ?_⟩
    rw [List.mem_singleton] at hs
    subst hs
    have := spp r hr
    unfold SepL at *
    simpa using this
   ·intro l hl
    rcases List.mem_append.1 hl with hl | hl
    ·exact hC.ne l (by simp [hl])
    ·rw [List.mem_singleton] at hl
     subst hl
     simp only; omega
   ·intro y x
    have := hC.cells y x
    refine Iff.trans ?_ (cells_app _ _ y x).symm
    refine Iff.trans ?_ (or_congr this (cells_one q y x).symm)
    refine Iff.trans (cells_app J0 _ y x) ?_
    refine Iff.trans ?_ (or_congr (cells_app J0 _ y x).symm Iff.rfl)
    rw [cells_one, cells_one]
    simp only
    rw [or_assoc]
    refine or_congr Iff.rfl ?_
    clear this
    omega
  ·rw [if_neg c]
   refine ⟨J0 ++ [p], q, rfl, ⟨?_, ?_, ?_⟩, rfl, Int.le_refl _⟩
   ·rw [List.pairwise_append]
    refine ⟨hC.sep, by simp, fun r hr s hs => ?_⟩
    rw [List.mem_singleton] at hs
    subst hs
    rcases List.mem_append.1 hr with hr | hr
    ·have := spp r hr
     unfold SepL at *
     omega
    ·rw [List.mem_singleton] at hr
     subst hr
     unfold SepL
     omega
   ·intro l hl
    rcases List.mem_append.1 hl with hl | hl
    ·exact hC.ne l hl
    ·rw [List.mem_singleton] at hl
     subst hl; exact hqn
   ·intro y x
    have := hC.cells y x
    refine Iff.trans (cells_app _ _ y x) ?_
    refine Iff.trans ?_ (cells_app _ _ y x).symm
    exact or_congr this Iff.rfl
/-- the program's lines are the one canonical list of the squares' edges -/
theorem lines_can {S S' P : List Tr} (hp : S.Perm S') (h1 : 1 ≤ S'.length) (hc : ∀ t, t ∈ S → 0 < t.c) (hP : (rawF S' S'.length).Perm P) (hs : P.Pairwise (fun a b => ¬ ltL b a)) :
  CanL (joinF P (2 * S'.length - 1)) (edgeC S) := by
 have hl : P.length = 2 * S'.length := by rw [← hP.length_eq, rawF_len]
 have hn : ∀ l, l ∈ P → l.b < l.c := fun l hl => raw_ne S' (fun t ht => hc t (hp.mem_iff.2 ht)) _ (Nat.le_refl _) l (hP.mem_iff.2 hl)
 obtain ⟨J0, p, e, hC, _, _⟩ := join_can P hs hn (2 * S'.length - 1) (by omega)
 rw [e]
 refine hC.congr (fun y x => ?_)
 rw [show 2 * S'.length - 1 + 1 = P.length by omega, List.take_length]
 refine (cells_perm hP y x).symm.trans ?_
 rw [raw_cells S' y x _ (Nat.le_refl _), List.take_length]
 exact (edge_perm hp y x).symm
/-- what has been swallowed of the first j lines, and what is left of them -/
structure SwI (O : List Tr) (n0 : Tr) (j : Nat) (n : Tr) (R : List Tr) : Prop where
 a : n.a = n0.a
 ne : n.b < n.c
 sub : R.Sublist (O.take j)
 far : ∀ r, r ∈ R → ¬ (r.a = n.a ∧ r.b ≤ n.c ∧ n.b ≤ r.c)
 cells : ∀ y x, cellsL (n :: R) y x ↔ cellsL (n0 :: O.take j) y x
theorem SwI.start (O : List Tr) (n0 : Tr) (h : n0.b < n0.c) : SwI O n0 0 n0 [] :=
 ⟨rfl, h, by simp, fun r hr => by simp at hr, fun y x => by simp⟩
theorem SwI.len {O R : List Tr} {n0 n : Tr} {j : Nat} (h : SwI O n0 j n R) : R.length ≤ j := by
 have := h.sub.length_le
 rw [List.length_take] at this
 omega
theorem sep_take {O : List Tr} (h : O.Pairwise SepL) {j : Nat} (hj : j < O.length) {r : Tr} (hr : r ∈ O.take j) : SepL r (O.getD j default) := by
 obtain ⟨i, hi, rfl⟩ := List.getElem_of_mem hr
 rw [List.length_take] at hi
 have := List.pairwise_iff_getElem.1 h i j (by omega) hj (by omega)
 rw [List.getElem_take]
 simpa [hj] using this
theorem SwI.hit {O R : List Tr} {n0 n m : Tr} {j : Nat} {cov : Int → Int → Prop} (h : SwI O n0 j n R) (hO : CanL O cov) (hj : j < O.length)
  (h1 : (O.getD j default).a = n.a) (h2 : (O.getD j default).b ≤ n.c) (h3 : n.b ≤ (O.getD j default).c) (m1 : m.a = n.a) (m2 : m.b = min n.b (O.getD j default).b) (m3 : m.c = max n.c (O.getD j default).c) : SwI O n0 (j + 1) m R := by
 have hs := fun r hr => sep_take hO.sep hj (r := r) hr
 have hn := hO.ne _ (getD_memT hj)
 have hT := take_succ_getS O hj
 generalize O.getD j default = o at h1 h2 h3 m2 m3 hs hn hT
 have ne := h.ne
 refine ⟨m1.trans h.a, by omega, h.sub.trans (by rw [hT]; simp), fun r hr => ?_, fun y x => ?_⟩
 ·have f := h.far r hr
  have s := hs r (h.sub.mem hr)
  have rn := hO.ne r (List.mem_of_mem_take (h.sub.mem hr))
  unfold SepL at s
  omega
 ·have := h.cells y x
  rw [hT, cells_cons, cells_cons, cells_app, cells_one]
  rw [cells_cons, cells_cons] at this
  rw [← or_assoc, ← this]
  rw [or_assoc, or_comm (a := cellsL R y x), ← or_assoc]
  refine or_congr ?_ Iff.rfl
  omega
theorem SwI.miss {O R : List Tr} {n0 n : Tr} {j : Nat} (h : SwI O n0 j n R) (hj : j < O.length)
  (h1 : ¬ ((O.getD j default).a = n.a ∧ (O.getD j default).b ≤ n.c ∧ n.b ≤ (O.getD j default).c)) : SwI O n0 (j + 1) n (R ++ [O.getD j default]) := by
 have hT := take_succ_getS O hj
 generalize O.getD j default = o at h1 hT
 refine ⟨h.a, h.ne, by rw [hT]; exact h.sub.append (List.Sublist.refl _), fun r hr => ?_, fun y x => ?_⟩
 ·rcases List.mem_append.1 hr with hr | hr
  ·exact h.far r hr
  ·rw [List.mem_singleton] at hr
   subst hr; exact h1
 ·have := h.cells y x
  rw [hT, cells_cons, cells_cons, cells_app, cells_app]
  rw [cells_cons, cells_cons] at this
  rw [← or_assoc, ← or_assoc, this]
/-- whether a line comes before another one -/
def ltY (p q : Tr) : Prop := p.a < q.a ∨ (p.a = q.a ∧ p.b < q.b)
instance (p q : Tr) : Decidable (ltY p q) := by unfold ltY; infer_instance
theorem SwI.done {O R : List Tr} {n0 n : Tr} {cov : Int → Int → Prop} (h : SwI O n0 O.length n R) (hO : CanL O cov) {p : Nat} (hp : p ≤ R.length)
  (h1 : ∀ i, i < p → ltY (R.getD i default) n) (h2 : p < R.length → ¬ ltY (R.getD p default) n) :
  CanL (R.take p ++ n :: R.drop p) (fun y x => cov y x ∨ (n0.a = y ∧ n0.b ≤ x ∧ x < n0.c)) := by
 have hsub : R.Sublist O := by have := h.sub; rwa [List.take_length] at this
 have hR := hO.sep.sublist hsub
 have rne : ∀ r, r ∈ R → r.b < r.c := fun r hr => hO.ne r (hsub.mem hr)
 have nn := h.ne
 have hget := List.pairwise_iff_getElem.1 hR
 have bef : ∀ r, r ∈ R.take p → SepL r n := fun r hr => by
  have hrR := List.mem_of_mem_take hr
  obtain ⟨i, hi, rfl⟩ := List.getElem_of_mem hr
  rw [List.length_take] at hi
  have := h1 i (by omega)
  rw [List.getElem_take] at hrR ⊢
  have e : R.getD i default = R[i] := by simp [show i < R.length by omega]
  rw [e] at this
  have f := h.far _ hrR
  have g := rne _ hrR
  unfold ltY at this
  unfold SepL
  omega
 have aft : ∀ r, r ∈ R.drop p → SepL n r := fun r hr => by
  have hrR := List.mem_of_mem_drop hr
  obtain ⟨i, hi, rfl⟩ := List.getElem_of_mem hr
  rw [List.length_drop] at hi
  rw [List.getElem_drop] at hrR ⊢
  have k := h2 (by omega)
  have e : R.getD p default = R[p] := by simp [show p < R.length by omega]
  rw [e] at k
  have f := h.far _ (List.getElem_mem (show p < R.length by omega))
  have g := rne _ (List.getElem_mem (show p < R.length by omega))
  have g2 := rne _ hrR
  unfold ltY at k
  by_cases e0 : i = 0
  ·subst e0
   unfold SepL
   simp only [Nat.add_zero]
   omega
  ·have s := hget p (p + i) (by omega) (by omega) (by omega)
   unfold SepL at s ⊢
   omega
 refine ⟨?_, ?_, fun y x => ?_⟩
 ·rw [List.pairwise_append]
  refine ⟨hR.sublist (List.take_sublist _ _), ?_, fun a ha b hb => ?_⟩
  ·rw [List.pairwise_cons]
   exact ⟨aft, hR.sublist (List.drop_sublist _ _)⟩
  ·rcases List.mem_cons.1 hb with rfl | hb
   ·exact bef a ha
   ·have h3 := bef a ha
    have h4 := aft b hb
    have g := rne _ (List.mem_of_mem_drop hb)
    unfold SepL at *
    omega
 ·intro l hl
  rcases List.mem_append.1 hl with hl | hl
  ·exact rne l (List.mem_of_mem_take hl)
  ·rcases List.mem_cons.1 hl with rfl | hl
   ·exact nn
   ·exact rne l (List.mem_of_mem_drop hl)
 ·have hc := h.cells y x
  rw [List.take_length, cells_cons, cells_cons] at hc
  have ho := hO.cells y x
  have e : R = R.take p ++ R.drop p := (List.take_append_drop p R).symm
  refine Iff.trans (cells_app _ _ y x) ?_
  rw [cells_cons, or_left_comm, ← cells_app, List.take_append_drop, hc, or_comm]
  exact or_congr ho Iff.rfl
theorem ins_len (R : List Tr) (n : Tr) {p : Nat} (hp : p ≤ R.length) : (R.take p ++ n :: R.drop p).length = R.length + 1 := by
 simp only [List.length_append, List.length_take, List.length_cons, List.length_drop]; omega
/-- the line that holds an edge -/
theorem CanL.edge {J : List Tr} {cov : Int → Int → Prop} (h : CanL J cov) {y x z : Int} (hz : 0 < z) (hc : ∀ u, x ≤ u → u < x + z → cov y u) :
  ∃ k, k < J.length ∧ onF J x y = (k : Int) ∧ ∀ i, i < J.length → (((J.getD i default).b ≤ x ∧ x + z ≤ (J.getD i default).c ∧ (J.getD i default).a = y) ↔ i = k) := by
 obtain ⟨l, hl, e1, e2, e3⟩ := (h.cells y x).2 (hc x (by omega) (by omega))
 obtain ⟨k, hk, rfl⟩ := List.getElem_of_mem hl
 have full : x + z ≤ J[k].c := by
  refine Classical.byContradiction (fun hn => ?_)
  obtain ⟨m, hm, f1, f2, f3⟩ := (h.cells y J[k].c).2 (hc J[k].c (by omega) (by omega))
  have hml : m ≠ J[k] := fun e => by rw [e] at f3; omega
  rcases pw_two h.sep hm hl hml with q | q <;> unfold SepL at q <;> omega
 have uni : ∀ i, (hi : i < J.length) → i ≠ k → ¬ (J[i].a = y ∧ J[i].b ≤ x ∧ x < J[i].c) := fun i hi hne ⟨u1, u2, u3⟩ => by
  rcases Nat.lt_or_gt_of_ne hne with q | q
  ·have := List.pairwise_iff_getElem.1 h.sep i k hi hk q
   unfold SepL at this; omega
  ·have := List.pairwise_iff_getElem.1 h.sep k i hk hi q
   unfold SepL at this; omega
 refine ⟨k, hk, onF_hit hk ?_ (fun j hj => ?_), fun i hi => ?_⟩
 ·have e : J.getD k default = J[k] := by simp [hk]
  rw [e]
  exact ⟨e1, e2, e3⟩
 ·have e : J.getD j default = J[j] := by simp [show j < J.length by omega]
  rw [e]
  exact uni j (by omega) (by omega)
 ·have e : J.getD i default = J[i] := by simp [hi]
  rw [e]
  constructor
  ·rintro ⟨u1, u2, u3⟩
   refine Classical.byContradiction (fun hn => uni i hi hn ⟨u3, u1, by omega⟩)
  ·rintro rfl
   exact ⟨e2, full, e1⟩
end Go.Proofs.YtolkchkedieppaaGreat
