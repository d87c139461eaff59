/- cuts in another order; plain law. -/
import Derived.Test.YtdfkhbflcacbfaaGreatVLnA
import Derived.Test.YtdfkhbflcacbfaaGreatVLayB
import Derived.Test.YtdfkhbflcacbfaaGreatVCod
import Derived.Test.YtdfkhbflcacbfaaGreatVNetA
import Derived.Test.YtdfkhbflcacbfaaGreatVRdB
import Derived.BigQuiet
import Derived.Test.YtdfkhbflcacbfaaGreatVCurA
import Derived.Test.YtdfkhbflcacbfaaGreatVRdA
set_option linter.unusedVariables false
set_option linter.unusedSimpArgs false
namespace Go.Proofs.YtdfkhbflcacbfaaGreat
open Go.RowKit
theorem ApT.symm {p q : Tr} (h : ApT p q) : ApT q p := by
 unfold ApT at *
 rcases h with h | h | h | h
 ·exact .inr (.inl h)
 ·exact .inl h
 ·exact .inr (.inr (.inr h))
 ·exact .inr (.inr (.inl h))
theorem sumC_perm {L M : List Tr} (p : L.Perm M) : sumC L = sumC M := by
 induction p with
 | nil => rfl
 | cons x _ ih => simp only [sumC, ih]
 | swap x y l => simp only [sumC]; omega
 | trans _ _ h1 h2 => exact h1.trans h2
theorem MkC.perm {L M : List Tr} {W H : Nat} (h : MkC L W H) (p : L.Perm M) : MkC M W H :=
 ⟨by rw [← p.length_eq]; exact h.pos, h.w1, h.h1, h.wb, h.hb, fun t ht => h.rg t (p.mem_iff.2 ht),
  (p.pairwise_iff (fun {a b} hab => hab.symm)).1 h.ap, by rw [← sumC_perm p]; exact h.ar,
  by obtain ⟨t, ht, e⟩ := h.mw; exact ⟨t, p.mem_iff.1 ht, e⟩, by obtain ⟨t, ht, e⟩ := h.mh; exact ⟨t, p.mem_iff.1 ht, e⟩⟩
theorem pw_mem {α : Type} {R : α → α → Prop} (hR : ∀ a b, R a b → R b a) {l : List α} (h : l.Pairwise R) {x y : α} (hx : x ∈ l) (hy : y ∈ l) (hne : x ≠ y) : R x y := by
 induction h with
 | nil => simp at hx
 | @cons a l h1 _ ih =>
  rcases List.mem_cons.1 hx with rfl | hx'
  ·rcases List.mem_cons.1 hy with rfl | hy'
   ·exact absurd rfl hne
   ·exact h1 _ hy'
  ·rcases List.mem_cons.1 hy with rfl | hy'
   ·exact hR _ _ (h1 _ hx')
   ·exact ih hx' hy'
theorem MkC.uniq {L : List Tr} {W H : Nat} (h : MkC L W H) {x y : Tr} (hx : x ∈ L) (hy : y ∈ L) (h1 : ¬ ltS x y) (h2 : ¬ ltS y x) : x = y := by
 by_cases e : x = y
 ·exact e
 ·have ha := pw_mem (fun a b q => ApT.symm q) h.ap hx hy e
  have r1 := h.rg x hx
  have r2 := h.rg y hy
  unfold ApT at ha
  unfold ltS at h1 h2
  omega
theorem MkC.sorted_eq {L A B : List Tr} {W H : Nat} (h : MkC L W H) (p1 : L.Perm A) (p2 : L.Perm B) (h1 : A.Pairwise (fun a b => ¬ ltS b a)) (h2 : B.Pairwise (fun a b => ¬ ltS b a)) : A = B :=
 perm_sorted_uniq A B (p1.symm.trans p2) h1 h2 (fun x hx y hy q1 q2 => h.uniq (p1.mem_iff.2 hx) (p1.mem_iff.2 hy) q1 q2)
end Go.Proofs.YtdfkhbflcacbfaaGreat

/- lines in canonical form; plain law. -/
namespace Go.Proofs.YtdfkhbflcacbfaaGreat
open Go.RowKit
/-- one line (y, from, to) before another, not touching -/
def SepL (p q : Tr) : Prop := p.a < q.a ∨ (p.a = q.a ∧ p.c < q.b)
/-- lines apart, in order, that cover these cells -/
structure CanL (A : List Tr) (cov : Int → Int → Prop) : Prop where
 sep : A.Pairwise SepL
 ne : ∀ l, l ∈ A → l.b < l.c
 cells : ∀ y x, (∃ l, l ∈ A ∧ l.a = y ∧ l.b ≤ x ∧ x < l.c) ↔ cov y x
theorem sorted_ext {α : Type} {R : α → α → Prop} (has : ∀ a b, R a b → ¬ R b a) : ∀ (A B : List α), A.Pairwise R → B.Pairwise R → (∀ x, x ∈ A ↔ x ∈ B) → A = B
 | [], [], _, _, _ => rfl
 | [], b :: B, _, _, h => by have := (h b).2 (by simp); simp at this
 | a :: A, [], _, _, h => by have := (h a).1 (by simp); simp at this
 | a :: A, b :: B, hA, hB, h => by
  rw [List.pairwise_cons] at hA hB
  have e : a = b := by
   rcases List.mem_cons.1 ((h a).1 (by simp)) with e | h1
   ·exact e
   ·rcases List.mem_cons.1 ((h b).2 (by simp)) with e | h2
    ·exact e.symm
    ·exact absurd (hB.1 a h1) (has _ _ (hA.1 b h2))
  subst e
  congr 1
  refine sorted_ext has A B hA.2 hB.2 (fun x => ⟨fun hx => ?_, fun hx => ?_⟩)
  ·rcases List.mem_cons.1 ((h x).1 (by simp [hx])) with e | h1
   ·subst e; exact absurd (hA.1 x hx) (fun q => has _ _ q q)
   ·exact h1
  ·rcases List.mem_cons.1 ((h x).2 (by simp [hx])) with e | h1
   ·subst e; exact absurd (hB.1 x hx) (fun q => has _ _ q q)
   ·exact h1
theorem pw_two {α : Type} {R : α → α → Prop} {l : List α} (h : l.Pairwise R) {x y : α} (hx : x ∈ l) (hy : y ∈ l) (hne : x ≠ y) : R x y ∨ R y x :=
 pw_mem (R := fun a b => R a b ∨ R b a) (fun a b q => q.symm) (h.imp (fun {a b} q => .inl q)) hx hy hne
end Go.Proofs.YtdfkhbflcacbfaaGreat

/- lines joined (program) and swallowed (reference); plain law. -/
namespace Go.Proofs.YtdfkhbflcacbfaaGreat
open Go.RowKit
def cellsL (A : List Tr) (y x : Int) : Prop := ∃ l, l ∈ A ∧ l.a = y ∧ l.b ≤ x ∧ x < l.c
/-- the cells of the edges of squares -/
def edgeC (S : List Tr) (y x : Int) : Prop := ∃ t, t ∈ S ∧ (t.b = y ∨ t.b + t.c = y) ∧ t.a ≤ x ∧ x < t.a + t.c
theorem CanL.congr {A : List Tr} {cov cov' : Int → Int → Prop} (h : CanL A cov) (e : ∀ y x, cov y x ↔ cov' y x) : CanL A cov' :=
 ⟨h.sep, h.ne, fun y x => (h.cells y x).trans (e y x)⟩
theorem cells_nil (y x : Int) : ¬ cellsL [] y x := fun ⟨l, h, _⟩ => by simp at h
theorem cells_app (A B : List Tr) (y x : Int) : cellsL (A ++ B) y x ↔ cellsL A y x ∨ cellsL B y x := by
 constructor
 ·rintro ⟨l, h, h2⟩
  rcases List.mem_append.1 h with h | h
  ·exact .inl ⟨l, h, h2⟩
  ·exact .inr ⟨l, h, h2⟩
 ·rintro (⟨l, h, h2⟩ | ⟨l, h, h2⟩)
  ·exact ⟨l, List.mem_append.2 (.inl h), h2⟩
  ·exact ⟨l, List.mem_append.2 (.inr h), h2⟩
theorem cells_cons (q : Tr) (A : List Tr) (y x : Int) : cellsL (q :: A) y x ↔ (q.a = y ∧ q.b ≤ x ∧ x < q.c) ∨ cellsL A y x := by
 constructor
 ·rintro ⟨l, h, h2⟩
  rcases List.mem_cons.1 h with rfl | h
  ·exact .inl h2
  ·exact .inr ⟨l, h, h2⟩
 ·rintro (h2 | ⟨l, h, h2⟩)
  ·exact ⟨q, by simp, h2⟩
  ·exact ⟨l, by simp [h], h2⟩
theorem cells_one (q : Tr) (y x : Int) : cellsL [q] y x ↔ (q.a = y ∧ q.b ≤ x ∧ x < q.c) :=
 (cells_cons q [] y x).trans ⟨fun h => h.elim id (fun h => absurd h (cells_nil y x)), .inl⟩
theorem cells_perm {A B : List Tr} (p : A.Perm B) (y x : Int) : cellsL A y x ↔ cellsL B y x :=
 ⟨fun ⟨l, h, h2⟩ => ⟨l, p.mem_iff.1 h, h2⟩, fun ⟨l, h, h2⟩ => ⟨l, p.mem_iff.2 h, h2⟩⟩
theorem edge_perm {A B : List Tr} (p : A.Perm B) (y x : Int) : edgeC A y x ↔ edgeC B y x :=
 ⟨fun ⟨l, h, h2⟩ => ⟨l, p.mem_iff.1 h, h2⟩, fun ⟨l, h, h2⟩ => ⟨l, p.mem_iff.2 h, h2⟩⟩
theorem take_succ_getS (S : List Tr) {k : Nat} (h : k < S.length) : S.take (k + 1) = S.take k ++ [S.getD k default] := by
 rw [List.take_add_one]; simp [h]
theorem edge_app (S : List Tr) (q : Tr) (y x : Int) : edgeC (S ++ [q]) y x ↔ edgeC S y x ∨ ((q.b = y ∨ q.b + q.c = y) ∧ q.a ≤ x ∧ x < q.a + q.c) := by
 constructor
 ·rintro ⟨l, h, h2⟩
  rcases List.mem_append.1 h with h | h
  ·exact .inl ⟨l, h, h2⟩
  ·rw [List.mem_singleton] at h
   subst h; exact .inr h2
 ·rintro (⟨l, h, h2⟩ | h2)
  ·exact ⟨l, List.mem_append.2 (.inl h), h2⟩
  ·exact ⟨q, by simp, h2⟩
theorem raw_cells (S : List Tr) (y x : Int) : ∀ k, k ≤ S.length → (cellsL (rawF S k) y x ↔ edgeC (S.take k) y x)
 | 0, _ => by
  simp only [rawF, List.take_zero]
  exact ⟨fun h => absurd h (cells_nil y x), fun ⟨l, h, _⟩ => by simp at h⟩
 | k + 1, hk => by
  rw [take_succ_getS S (by omega), edge_app, rawF, cells_app, raw_cells S y x k (by omega), cells_cons, cells_one]
  generalize S.getD k default = q
  simp only
  constructor
  ·rintro (h | h | h)
   ·exact .inl h
   ·exact .inr ⟨.inl h.1, h.2⟩
   ·exact .inr ⟨.inr h.1, h.2⟩
  ·rintro (h | ⟨h | h, h2⟩)
   ·exact .inl h
   ·exact .inr (.inl ⟨h, h2⟩)
   ·exact .inr (.inr ⟨h, h2⟩)
theorem raw_ne (S : List Tr) (hc : ∀ t, t ∈ S → 0 < t.c) : ∀ k, k ≤ S.length → ∀ l, l ∈ rawF S k → l.b < l.c
 | 0, _, l, h => by simp [rawF] at h
 | k + 1, hk, l, h => by
  rw [rawF] at h
  have hq := hc (S.getD k default) (by simp [show k < S.length by omega])
  rcases List.mem_append.1 h with h | h
  ·exact raw_ne S hc k (by omega) l h
  ·simp only [List.mem_cons, List.not_mem_nil, or_false] at h
   rcases h with rfl | rfl <;> simp only <;> omega
theorem jn_last (J0 : List Tr) (p l : Tr) : jn (J0 ++ [p]) l = if p.a = l.a ∧ l.b ≤ p.c then J0 ++ [⟨p.a, p.b, if p.c < l.c then l.c else p.c⟩] else J0 ++ [p] ++ [l] := by
 have e : (J0 ++ [p]).getD ((J0 ++ [p]).length - 1) default = p := by simp
 unfold jn
 rw [e]
 split
 ·simp
 ·rfl
theorem join_can (P : List Tr) (hs : P.Pairwise (fun a b => ¬ ltL b a)) (hne : ∀ l, l ∈ P → l.b < l.c) : ∀ k, k < P.length →
  ∃ J0 p, joinF P k = J0 ++ [p] ∧ CanL (J0 ++ [p]) (cellsL (P.take (k + 1))) ∧ p.a = (P.getD k default).a ∧ p.b ≤ (P.getD k default).b
 | 0, h => by
  refine ⟨[], P.getD 0 default, rfl, ?_, rfl, Int.le_refl _⟩
  have e : P.take 1 = [P.getD 0 default] := by have := take_succ_getS P h; simpa using this
  rw [e]
  exact ⟨by simp, fun l hl => hne l (by simp at hl; subst hl; simp [h]), fun y x => Iff.rfl⟩
 | k + 1, h => by
  obtain ⟨J0, p, e, hC, h1, h2⟩ := join_can P hs hne k (by omega)
  have hget := List.pairwise_iff_getElem.1 hs k (k + 1) (by omega) h (by omega)
  have hq : P.getD (k + 1) default ∈ P := by simp [h]
  have hqn := hne _ hq
  have g1 : P[k] = P.getD k default := by simp [show k < P.length by omega]
  have g2 : P[k + 1] = P.getD (k + 1) default := by simp [h]
  rw [g1, g2] at hget
  have hT := take_succ_getS P h
  simp only [joinF]
  rw [e, jn_last, hT]
  generalize P.getD (k + 1) default = q at hget hqn ⊢
  generalize P.getD k default = o at h1 h2 hget
  unfold ltL at hget
  have hpn := hC.ne p (by simp)
  have sp := hC.sep
  rw [List.pairwise_append] at sp
  have spp : ∀ r, r ∈ J0 → SepL r p := fun r hr => sp.2.2 r hr p (by simp)
  by_cases c : p.a = q.a ∧ q.b ≤ p.c
  ·rw [if_pos c]
   obtain ⟨m, hm⟩ : ∃ m, m = (if p.c < q.c then q.c else p.c) := ⟨_, rfl⟩
   rw [← hm]
   have hm2 : m = max p.c q.c := by rw [hm]; split <;> omega
   clear hm
   refine ⟨J0, _, rfl, ⟨?_, ?_, ?_⟩, c.1, by simp only; omega⟩
   ·rw [List.pairwise_append]
    refine ⟨sp.1, by simp, fun r hr s hs => ?_⟩
    rw [List.mem_singleton] at hs
    subst hs
    have := spp r hr
    unfold SepL at *
    simpa using this
   ·intro l hl
    rcases List.mem_append.1 hl with hl | hl
    ·exact hC.ne l (by simp [hl])
    ·rw [List.mem_singleton] at hl
     subst hl
     simp only; omega
   ·intro y x
    have := hC.cells y x
    refine Iff.trans ?_ (cells_app _ _ y x).symm
    refine Iff.trans ?_ (or_congr this (cells_one q y x).symm)
    refine Iff.trans (cells_app J0 _ y x) ?_
    refine Iff.trans ?_ (or_congr (cells_app J0 _ y x).symm Iff.rfl)
    rw [cells_one, cells_one]
    simp only
    rw [or_assoc]
    refine or_congr Iff.rfl ?_
    clear this
    omega
  ·rw [if_neg c]
   refine ⟨J0 ++ [p], q, rfl, ⟨?_, ?_, ?_⟩, rfl, Int.le_refl _⟩
   ·rw [List.pairwise_append]
    refine ⟨hC.sep, by simp, fun r hr s hs => ?_⟩
    rw [List.mem_singleton] at hs
    subst hs
    rcases List.mem_append.1 hr with hr | hr
    ·have := spp r hr
     unfold SepL at *
     omega
    ·rw [List.mem_singleton] at hr
     subst hr
     unfold SepL
     omega
   ·intro l hl
    rcases List.mem_append.1 hl with hl | hl
    ·exact hC.ne l hl
    ·rw [List.mem_singleton] at hl
     subst hl; exact hqn
   ·intro y x
    have := hC.cells y x
    refine Iff.trans (cells_app _ _ y x) ?_
    refine Iff.trans ?_ (cells_app _ _ y x).symm
    exact or_congr this Iff.rfl
/-- the program's lines are the one canonical list of the squares' edges -/
theorem lines_can {S S' P : List Tr} (hp : S.Perm S') (h1 : 1 ≤ S'.length) (hc : ∀ t, t ∈ S → 0 < t.c) (hP : (rawF S' S'.length).Perm P) (hs : P.Pairwise (fun a b => ¬ ltL b a)) :
  CanL (joinF P (2 * S'.length - 1)) (edgeC S) := by
 have hl : P.length = 2 * S'.length := by rw [← hP.length_eq, rawF_len]
 have hn : ∀ l, l ∈ P → l.b < l.c := fun l hl => raw_ne S' (fun t ht => hc t (hp.mem_iff.2 ht)) _ (Nat.le_refl _) l (hP.mem_iff.2 hl)
 obtain ⟨J0, p, e, hC, _, _⟩ := join_can P hs hn (2 * S'.length - 1) (by omega)
 rw [e]
 refine hC.congr (fun y x => ?_)
 rw [show 2 * S'.length - 1 + 1 = P.length by omega, List.take_length]
 refine (cells_perm hP y x).symm.trans ?_
 rw [raw_cells S' y x _ (Nat.le_refl _), List.take_length]
 exact (edge_perm hp y x).symm
/-- whether a line comes before another one -/
def ltY (p q : Tr) : Prop := p.a < q.a ∨ (p.a = q.a ∧ p.b < q.b)
instance (p q : Tr) : Decidable (ltY p q) := by unfold ltY; infer_instance
/-- the line that holds an edge -/
theorem CanL.edge {J : List Tr} {cov : Int → Int → Prop} (h : CanL J cov) {y x z : Int} (hz : 0 < z) (hc : ∀ u, x ≤ u → u < x + z → cov y u) :
  ∃ k, k < J.length ∧ onF J x y = (k : Int) ∧ ∀ i, i < J.length → (((J.getD i default).b ≤ x ∧ x + z ≤ (J.getD i default).c ∧ (J.getD i default).a = y) ↔ i = k) := by
 obtain ⟨l, hl, e1, e2, e3⟩ := (h.cells y x).2 (hc x (by omega) (by omega))
 obtain ⟨k, hk, rfl⟩ := List.getElem_of_mem hl
 have full : x + z ≤ J[k].c := by
  refine Classical.byContradiction (fun hn => ?_)
  obtain ⟨m, hm, f1, f2, f3⟩ := (h.cells y J[k].c).2 (hc J[k].c (by omega) (by omega))
  have hml : m ≠ J[k] := fun e => by rw [e] at f3; omega
  rcases pw_two h.sep hm hl hml with q | q <;> unfold SepL at q <;> omega
 have uni : ∀ i, (hi : i < J.length) → i ≠ k → ¬ (J[i].a = y ∧ J[i].b ≤ x ∧ x < J[i].c) := fun i hi hne ⟨u1, u2, u3⟩ => by
  rcases Nat.lt_or_gt_of_ne hne with q | q
  ·have := List.pairwise_iff_getElem.1 h.sep i k hi hk q
   unfold SepL at this; omega
  ·have := List.pairwise_iff_getElem.1 h.sep k i hk hi q
   unfold SepL at this; omega
 refine ⟨k, hk, onF_hit hk ?_ (fun j hj => ?_), fun i hi => ?_⟩
 ·have e : J.getD k default = J[k] := by simp [hk]
  rw [e]
  exact ⟨e1, e2, e3⟩
 ·have e : J.getD j default = J[j] := by simp [show j < J.length by omega]
  rw [e]
  exact uni j (by omega) (by omega)
 ·have e : J.getD i default = J[i] := by simp [hi]
  rw [e]
  constructor
  ·rintro ⟨u1, u2, u3⟩
   refine Classical.byContradiction (fun hn => uni i hi hn ⟨u3, u1, by omega⟩)
  ·rintro rfl
   exact ⟨e2, full, e1⟩
end Go.Proofs.YtdfkhbflcacbfaaGreat

/- hide.Measure of a cut. -/
namespace Go.Proofs.YtdfkhbflcacbfaaGreat
open Go.RowKit
attribute [local go_sem ↓] Go.wp_at_zero Go.wp_at_succ
set_option maxHeartbeats 4000000 in
set_option maxRecDepth 100000 in
theorem measure_good (g0 c0 : Nat) (S : List Tr) (w : World) (hS : TrR w g0 0 S) (hg : g0 < w.heap.size) (hc : S.length ≤ c0) (hC : CutOK S) :
  Calls Tryz.prog 6 #[.slice (some ⟨g0, 0, none⟩) S.length c0] w fun e w' => e = .returned (.tuple #[.int .i64 (wdT S S.length), .int .i64 (htT S S.length), .int .i64 0]) ∧ Below w.heap.size w w' := by
 have hcon := read_good g0 c0 S w hS hg hc hC
 clear hS hg hc hC
 go_enter Tryz.func6, Tryz.ntmps6
 go_upto_region 4 with (go_at_call 17; (with_reducible refine hcon.mono ?_); rintro e w1 ⟨bp, gc, cap, S', rfl, hl, hp, hs, h0, h1, h2, hr, hg, hb, hK⟩; have KW := Lib.hid hK; clear hl hp hs hr hK)
 obtain ⟨W, hW⟩ : ∃ W, W = wdT S S.length := ⟨_, rfl⟩
 obtain ⟨H, hH⟩ : ∃ H, H = htT S S.length := ⟨_, rfl⟩
 rw [← hW] at h1
 rw [← hH] at h2
 have HWH := Lib.hid (And.intro hW hH)
 clear hcon hW hH
 go_quiet (fail)
 go_wp2
 go_ret3
 obtain ⟨rfl, rfl⟩ := HWH.out
 first | exact ⟨rfl, KW.out⟩ | exact ⟨rfl, KW.out.drew⟩ | exact ⟨rfl, KW.out.trans ((Drawn.of _ _).below _)⟩
end Go.Proofs.YtdfkhbflcacbfaaGreat

/- ref.SameRow of equal lists of texts. -/
namespace Go.Proofs.YtdfkhbflcacbfaaGreat
open Go.RowKit
attribute [local go_sem ↓] Go.wp_at_zero Go.wp_at_succ
set_option maxHeartbeats 2000000 in
set_option maxRecDepth 100000 in
theorem sameRow_eq (v1 v2 : Value) (n : Nat) (f : Nat → ByteArray) (w : World) (h1 : Sl w v1 n (fun j => .string (f j))) (h2 : Sl w v2 n (fun j => .string (f j))) (hn : n ≤ 1048576) :
  Calls Tryz.prog 26 #[v1, v2] w fun e w' => e = .returned (.bool true) ∧ Drawn w w' := by
 obtain ⟨a1, b1, o1, c1, rfl, s1⟩ := h1
 obtain ⟨a2, b2, o2, c2, rfl, s2⟩ := h2
 have S1 := Lib.hid s1
 have S2 := Lib.hid s2
 clear s1 s2
 have d0 : ((n : Int) != (n : Int)) = false := by simp
 go_enter Tryz.func26, Tryz.ntmps26
 go_wp2
 go_loopw [5] (fun v5 wr => ∃ k : Nat, k ≤ n ∧ v5 = .int .i64 (k : Nat) ∧ Hid (Drawn w wr)) (fun v5 _ => n - (intOf v5).toNat)
 case atStart => exact ⟨0, by omega, rfl, Lib.hid (Drawn.refl _)⟩
 case round =>
  obtain ⟨k, hk, rfl, hd⟩ := hrel
  by_cases h : k < n
  ·have d1 : decide ((k : Int) < (n : Int)) = true := by simpa using h
   have g1 : (0 : Int) ≤ (k : Int) := Int.natCast_nonneg k
   have g2 : (k : Int) < (n : Int) := by omega
   obtain rfl := S1.out.at_ (by omega)
   obtain rfl := S2.out.at_ (by omega)
   have x1 := (S1.out.drawn hd.out).cell k h
   have x2 := (S2.out.drawn hd.out).cell k h
   go_wp2
   go_quiet (fail)
   go_wp2
   go_roundw
   case rel => exact ⟨k + 1, by omega, by go_num, Lib.hid (hd.out.trans (Drawn.of _ _))⟩
   case measure => simp [intOf]; omega
  ·obtain rfl : k = n := by omega
   have d1 : decide ((k : Int) < (k : Int)) = false := by simp
   go_wp2
   go_ret
   exact ⟨rfl, hd.out⟩
end Go.Proofs.YtdfkhbflcacbfaaGreat

/- Before of the reference. -/
namespace Go.Proofs.YtdfkhbflcacbfaaGreat
open Go.RowKit
attribute [local go_sem ↓] Go.wp_at_zero Go.wp_at_succ
set_option maxHeartbeats 2000000 in
set_option maxRecDepth 100000 in
theorem before_any (v1 v2 : Value) (n m : Nat) (f g : Nat → Int) (w : World) (h1 : Ints w v1 n f) (h2 : Ints w v2 m g) (hn : n ≤ 1048576) (hm : m ≤ 1048576) :
  Calls Tryz.prog 59 #[v1, v2] w fun e w' => e = .returned (.bool (decide (lexC f g n m n 0 < 0))) ∧ Drawn w w' := by
 obtain ⟨a1, b1, o1, c1, rfl, s1⟩ := h1
 obtain ⟨a2, b2, o2, c2, rfl, s2⟩ := h2
 have S1 := Lib.hid s1
 have S2 := Lib.hid s2
 clear s1 s2
 go_enter Tryz.func59, Tryz.ntmps59
 go_wp2
 go_loopw [5] (fun v5 wr => ∃ k : Nat, k ≤ n ∧ k ≤ m ∧ v5 = .int .i64 (k : Nat) ∧ Hid (lexC f g n m n 0 = lexC f g n m (n - k) k) ∧ Hid (Drawn w wr)) (fun v5 _ => n - (intOf v5).toNat)
 case atStart => exact ⟨0, by omega, by omega, rfl, Lib.hid rfl, Lib.hid (Drawn.refl _)⟩
 case round =>
  obtain ⟨k, hk, hkm, rfl, HX, hd⟩ := hrel
  by_cases h : k < n
  ·have d1 : decide ((k : Int) < (n : Int)) = true := by simpa using h
   have d1n : decide (k < n) = true := by simpa using h
   have hstep : lexC f g n m (n - k) k = if m ≤ k then 1 else if cmp3 (f k) (g k) = 0 then lexC f g n m (n - (k + 1)) (k + 1) else cmp3 (f k) (g k) := by
    rw [show n - k = (n - (k + 1)) + 1 by omega]; rfl
   by_cases h2 : k < m
   ·rw [if_neg (by omega)] at hstep
    have d2 : decide ((k : Int) < (m : Int)) = true := by simpa using h2
    have d2n : decide (k < m) = true := by simpa using h2
    have ix1 := fun W => ixI S1.out k c1 h W
    have ix2 := fun W => ixI S2.out k c2 h2 W
    have x1 := (S1.out.drawn hd.out).cell k h
    have x2 := (S2.out.drawn hd.out).cell k h2
    simp only [ic] at x1 x2
    by_cases he : f k = g k
    ·have d3 : (f k != g k) = false := by simpa using he
     rw [if_pos (by unfold cmp3; rw [if_neg (by omega), if_neg (by omega)])] at hstep
     have HST := Lib.hid hstep
     clear hstep he
     go_wp2
     go_quiet (fail)
     go_wp2
     go_roundw
     case rel => exact ⟨k + 1, by omega, by omega, by go_num, Lib.hid (HX.out.trans HST.out), Lib.hid (hd.out.trans (Drawn.of _ _))⟩
     case measure => simp [intOf]; omega
    ·have d3 : (f k != g k) = true := by simpa using he
     have hlt : (lexC f g n m n 0 < 0) ↔ f k < g k := by
      rw [HX.out, hstep, if_neg (by unfold cmp3; split <;> (try split) <;> omega)]
      unfold cmp3
      split <;> (try split) <;> omega
     have HLT := Lib.hid hlt
     have y1 := x1
     have y2 := x2
     clear hstep he hlt
     go_wp2
     go_quiet (fail)
     go_wp2
     go_quiet (fail)
     go_wp2
     go_ret
     refine ⟨?_, (hd.out.step _).step _⟩
     all_goals (rw [decide_eq_decide.2 HLT.out]; rfl)
   ·obtain rfl : k = m := by omega
    rw [if_pos (Nat.le_refl _)] at hstep
    have d2 : decide ((k : Int) < (k : Int)) = false := by simp
    have d3 : decide ((n : Int) < (k : Int)) = false := by simp; omega
    have d3n : decide (n < k) = false := by simp; omega
    have HST := Lib.hid hstep
    clear hstep h2
    go_wp2
    go_ret
    refine ⟨?_, hd.out⟩
    rw [HX.out, HST.out]; rfl
  ·obtain rfl : k = n := by omega
   have d1 : decide ((k : Int) < (k : Int)) = false := by simp
   have HST : Hid (lexC f g k m (k - k) k = if k < m then -1 else 0) := Lib.hid (by rw [Nat.sub_self]; rfl)
   go_wp2
   go_ret
   refine ⟨?_, hd.out⟩
   rw [HX.out, HST.out]
   by_cases e : k < m
   ·simp [e]
   ·simp [e]
end Go.Proofs.YtdfkhbflcacbfaaGreat
