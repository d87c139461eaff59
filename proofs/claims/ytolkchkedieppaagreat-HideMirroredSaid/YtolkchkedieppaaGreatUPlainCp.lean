/- Code of package hide at a valid cut. -/
import Derived.Test.YtolkchkedieppaaGreatURdB
import Derived.Test.YtolkchkedieppaaGreatULayB
import Derived.Test.YtolkchkedieppaaGreatULnP
import Derived.Test.YtolkchkedieppaaGreatURLay
import Derived.Test.YtolkchkedieppaaGreatUPlainCv
import Derived.Test.YtolkchkedieppaaGreatUOrd
import Derived.Test.YtolkchkedieppaaGreatURdA
set_option linter.unusedVariables false
set_option linter.unusedSimpArgs false
namespace Go.Proofs.YtolkchkedieppaaGreat
open Go.RowKit
attribute [local go_sem ↓] Go.wp_at_zero Go.wp_at_succ
/-- sides of the squares -/
def szF (S : List Tr) (i : Nat) : Int := (S.getD i default).c
set_option maxHeartbeats 4000000 in
set_option maxRecDepth 100000 in
theorem code_good (g0 c0 : Nat) (S : List Tr) (w : World) (hS : TrR w g0 0 S) (hg : g0 < w.heap.size) (hc : S.length ≤ c0) (hC : CutOK S) :
  Calls Tryz.prog 31 #[.slice (some ⟨g0, 0, none⟩) S.length c0] w fun e w' => ∃ va vk S' B, e = .returned (.tuple #[.slice va S.length vk, .int .i64 0]) ∧ S'.length = S.length ∧ S.Perm S' ∧ S'.Pairwise (fun a b => ¬ ltS b a) ∧
   w.heap.size ≤ B ∧ w'.ownsRow B 3 1 (.slice va S.length vk) S.length (ics (szF S') S.length) ∧ Below w.heap.size w w' := by
 obtain ⟨i0, hinf, hz0, hz1, hz2⟩ := info_parts infoI
 have hcon := read_good g0 c0 S w hS hg hc hC
 have hn24 := hC.few
 clear hS hg hc hC
 go_enter Tryz.func31, Tryz.ntmps31
 go_wp2_with (go_at_call 54; (with_reducible refine hcon.mono ?_); rintro e w1 ⟨bp, gc, cap, S', rfl, hl, hp, hs, h0, h1, h2, hr, hg, hb, hK⟩; have HL := Lib.hid hl; have HPM := Lib.hid hp; have HSO := Lib.hid hs; have HTR := Lib.hid hr; have KW := Lib.hid hK; clear hl hp hs hr hK)
 clear h1 h2 hcon
 have HRB := Lib.hid hg
 have OW0 : Hid (w1.ownsRow w1.heap.size 3 1 (.slice none 0 0) 0 (ics (szF S') 0)) := Lib.hid (World.ownsRow_nil _ _ _ _)
 have KW0 := Lib.hid (Below.refl w1.heap.size w1)
 have hb0 := hb
 have hg0 := hg
 have hls := HL.out
 go_loopw [6, 8, 22] (fun v6 v8 v22 wr => ∃ k : Nat, k ≤ S.length ∧ v22 = .int .i64 (k : Nat) ∧ ∃ va vk, v6 = .slice va k vk ∧ Hid (wr.ownsRow w1.heap.size 3 1 (.slice va k vk) k (ics (szF S') k)) ∧ Hid (Below w1.heap.size w1 wr)) (fun _ _ v22 _ => S.length - (intOf v22).toNat)
 case atStart => exact ⟨0, by omega, rfl, none, 0, rfl, OW0, KW0⟩
 case round =>
  clear KW0 OW0
  obtain ⟨k, hk, rfl, va, vk, rfl, OW, KB⟩ := hrel
  by_cases h : k < S.length
  ·have e1 : decide ((k : Int) < ((S.length : Nat) : Int)) = true := by simpa using h
   have e1n : decide (k < S.length) = true := by simpa using h
   have ix := fun W => ixSq gc S.length cap k h W
   have HR2 := Lib.hid (HTR.out.below KB.out hg0)
   have x0 := HR2.out.c0 k (by omega)
   have x1 := HR2.out.c1 k (by omega)
   have x2 := HR2.out.c2 k (by omega)
   simp only [Nat.zero_add] at x0 x1 x2
   obtain ⟨q, hq⟩ : ∃ q, q = S'.getD k default := ⟨_, rfl⟩
   rw [← hq] at x0 x1 x2
   have HQ : Hid (ics (szF S') k ++ [.int .i64 q.c] = ics (szF S') (k + 1)) := Lib.hid (by rw [← ics_succ, hq]; rfl)
   clear hq
   go_upto_region 8 with (fail)
   have KB := Lib.hid (KB.out.alloc KB.out.size (.cells #[.int .i64 q.a, .int .i64 q.b, .int .i64 q.c] 47))
   have OW := Lib.hid (OW.out.alloc (.cells #[.int .i64 q.a, .int .i64 q.b, .int .i64 q.c] 47))
   have y2 : (wr.alloc (.cells #[.int .i64 q.a, .int .i64 q.b, .int .i64 q.c] 47)).cell? ⟨wr.heap.size, 2, none⟩ = some (.int .i64 q.c) := by simp [go_sem]
   generalize wr.alloc (.cells #[.int .i64 q.a, .int .i64 q.b, .int .i64 q.c] 47) = w2 at KB OW y2 ⊢
   obtain ⟨sb, hsb⟩ : ∃ sb, sb = wr.heap.size := ⟨_, rfl⟩
   rw [← hsb] at y2 ⊢
   clear hsb x0 x1 x2 ix HR2
   have HSZ := Lib.hid KB.out.size
   have HBK := Lib.hid OW.out.lt
   have HSW := Lib.hid KW.out.size
   go_wp2_with (at_builtin; refine wpList_append_own _ rfl (.tmp 26) (.tmp 29) 22 rfl w1.heap.size 3 i0 (.int .i64 0) 1 8 Tryz.underlying22 hinf hz0 hz1 hz2 rfl (by decide) (.slice va k vk) k (ics (szF S') k) rfl (OW.out.alloc _) ⟨w2.heap.size, 0, none⟩ 1 1 [.int .i64 q.c] rfl rfl (new1 w2 (.int .i64 q.c) 3) (one1 _ rfl) (by unfold maxLen; omega) (by omega) (by simp; have := HSZ.out; have := HSW.out; omega) ?_; intro v' w5 hown hgrow _; rw [HQ.out] at hown; obtain ⟨va', vk', rfl⟩ := own_shape hown; have OW := Lib.hid hown; have KB := Lib.hid ((KB.out.alloc KB.out.size _).grown hgrow (by have := HSZ.out; simp; omega) (fun kk e => (HBK.out kk e).1)); clear hown hgrow)
   go_roundw
   case rel => exact ⟨k + 1, by omega, by go_num, va', vk', rfl, OW, KB⟩
   case measure => simp [intOf]; omega
  ·obtain rfl : k = S.length := by omega
   have e1 : decide (((S.length : Nat) : Int) < ((S.length : Nat) : Int)) = false := by simp
   go_wp2
   go_ret2
   exact ⟨va, vk, S', w1.heap.size, rfl, hls, HPM.out, HSO.out, KW.out.size, OW.out, KW.out.trans (KB.out.mono KW.out.size)⟩
end Go.Proofs.YtolkchkedieppaaGreat

/- cuts in another order; plain law. -/
namespace Go.Proofs.YtolkchkedieppaaGreat
open Go.RowKit
theorem ApT.symm {p q : Tr} (h : ApT p q) : ApT q p := by
 unfold ApT at *
 rcases h with h | h | h | h
 ·exact .inr (.inl h)
 ·exact .inl h
 ·exact .inr (.inr (.inr h))
 ·exact .inr (.inr (.inl h))
theorem sumC_perm {L M : List Tr} (p : L.Perm M) : sumC L = sumC M := by
 induction p with
 | nil => rfl
 | cons x _ ih => simp only [sumC, ih]
 | swap x y l => simp only [sumC]; omega
 | trans _ _ h1 h2 => exact h1.trans h2
theorem MkC.perm {L M : List Tr} {W H : Nat} (h : MkC L W H) (p : L.Perm M) : MkC M W H :=
 ⟨by rw [← p.length_eq]; exact h.pos, h.w1, h.h1, h.wb, h.hb, fun t ht => h.rg t (p.mem_iff.2 ht),
  (p.pairwise_iff (fun {a b} hab => hab.symm)).1 h.ap, by rw [← sumC_perm p]; exact h.ar,
  by obtain ⟨t, ht, e⟩ := h.mw; exact ⟨t, p.mem_iff.1 ht, e⟩, by obtain ⟨t, ht, e⟩ := h.mh; exact ⟨t, p.mem_iff.1 ht, e⟩⟩
theorem pw_mem {α : Type} {R : α → α → Prop} (hR : ∀ a b, R a b → R b a) {l : List α} (h : l.Pairwise R) {x y : α} (hx : x ∈ l) (hy : y ∈ l) (hne : x ≠ y) : R x y := by
 induction h with
 | nil => simp at hx
 | @cons a l h1 _ ih =>
  rcases List.mem_cons.1 hx with rfl | hx'
  ·rcases List.mem_cons.1 hy with rfl | hy'
   ·exact absurd rfl hne
   ·exact h1 _ hy'
  ·rcases List.mem_cons.1 hy with rfl | hy'
   ·exact hR _ _ (h1 _ hx')
   ·exact ih hx' hy'
theorem MkC.uniq {L : List Tr} {W H : Nat} (h : MkC L W H) {x y : Tr} (hx : x ∈ L) (hy : y ∈ L) (h1 : ¬ ltS x y) (h2 : ¬ ltS y x) : x = y := by
 by_cases e : x = y
 ·exact e
 ·have ha := pw_mem (fun a b q => ApT.symm q) h.ap hx hy e
  have r1 := h.rg x hx
  have r2 := h.rg y hy
  unfold ApT at ha
  unfold ltS at h1 h2
  omega
theorem MkC.sorted_eq {L A B : List Tr} {W H : Nat} (h : MkC L W H) (p1 : L.Perm A) (p2 : L.Perm B) (h1 : A.Pairwise (fun a b => ¬ ltS b a)) (h2 : B.Pairwise (fun a b => ¬ ltS b a)) : A = B :=
 perm_sorted_uniq A B (p1.symm.trans p2) h1 h2 (fun x hx y hy q1 q2 => h.uniq (p1.mem_iff.2 hx) (p1.mem_iff.2 hy) q1 q2)
theorem MkC.ord_eq {L A : List Tr} {W H : Nat} (h : MkC L W H) (p1 : L.Perm A) (h1 : A.Pairwise (fun a b => ¬ ltS b a)) : ordL L L.length = A := by
 have p2 := ordL_perm L L.length (Nat.le_refl _)
 rw [List.take_length] at p2
 exact h.sorted_eq p2 p1 (ordL_sorted L _) h1
end Go.Proofs.YtolkchkedieppaaGreat

/- a cut has its measures; plain law. -/
namespace Go.Proofs.YtolkchkedieppaaGreat
open Go.RowKit
theorem wdT_at (S : List Tr) : ∀ k, k ≤ S.length → wdT S k = 0 ∨ ∃ t, t ∈ S ∧ t.a + t.c = wdT S k
 | 0, _ => .inl rfl
 | k + 1, h => by
  simp only [wdT]
  split
  ·exact .inr ⟨_, getD_memT (show k < S.length by omega), rfl⟩
  ·exact wdT_at S k (by omega)
theorem htT_at (S : List Tr) : ∀ k, k ≤ S.length → htT S k = 0 ∨ ∃ t, t ∈ S ∧ t.b + t.c = htT S k
 | 0, _ => .inl rfl
 | k + 1, h => by
  simp only [htT]
  split
  ·exact .inr ⟨_, getD_memT (show k < S.length by omega), rfl⟩
  ·exact htT_at S k (by omega)
theorem MkC.of_cut {S : List Tr} (h : CutOK S) : ∃ W H, MkC S W H := by
 have hm := meas_bound h.rg S.length (Nat.le_refl _)
 have hp := h.pos
 have r0 := h.rg 0 hp
 have w0 := wdT_ge S S.length 0 hp
 have h0 := htT_ge S S.length 0 hp
 have := r0.a0; have := r0.b0; have := r0.c0
 obtain ⟨W, hW⟩ : ∃ W : Nat, wdT S S.length = (W : Int) := ⟨_, (Int.toNat_of_nonneg hm.1).symm⟩
 obtain ⟨H, hH⟩ : ∃ H : Nat, htT S S.length = (H : Int) := ⟨_, (Int.toNat_of_nonneg hm.2.2.1).symm⟩
 refine ⟨W, H, hp, by omega, by omega, by omega, by omega, fun t ht => ?_, ?_, ?_, ?_, ?_⟩
 ·obtain ⟨i, hi, rfl⟩ := List.getElem_of_mem ht
  have r := h.rg i hi
  have g1 := wdT_ge S S.length i hi
  have g2 := htT_ge S S.length i hi
  have e : S.getD i default = S[i] := by simp [hi]
  rw [e] at r g1 g2
  exact ⟨r.a0, r.b0, r.c0, by omega, by omega⟩
 ·rw [List.pairwise_iff_getElem]
  intro i j hi hj hij
  have := h.ap j i hij hj
  simpa [hi, hj] using this
 ·have e := arT_sum S S.length (Nat.le_refl _)
  rw [List.take_length] at e
  rw [← e, h.ar, hW, hH]
 ·rcases wdT_at S S.length (Nat.le_refl _) with e | ⟨t, ht, e⟩
  ·omega
  ·exact ⟨t, ht, by omega⟩
 ·rcases htT_at S S.length (Nat.le_refl _) with e | ⟨t, ht, e⟩
  ·omega
  ·exact ⟨t, ht, by omega⟩
end Go.Proofs.YtolkchkedieppaaGreat

/- lines in canonical form; plain law. -/
namespace Go.Proofs.YtolkchkedieppaaGreat
open Go.RowKit
theorem sorted_ext {α : Type} {R : α → α → Prop} (has : ∀ a b, R a b → ¬ R b a) : ∀ (A B : List α), A.Pairwise R → B.Pairwise R → (∀ x, x ∈ A ↔ x ∈ B) → A = B
 | [], [], _, _, _ => rfl
 | [], b :: B, _, _, h => by have := (h b).2 (by simp); simp at this
 | a :: A, [], _, _, h => by have := (h a).1 (by simp); simp at this
 | a :: A, b :: B, hA, hB, h => by
  rw [List.pairwise_cons] at hA hB
  have e : a = b := by
   rcases List.mem_cons.1 ((h a).1 (by simp)) with e | h1
   ·exact e
   ·rcases List.mem_cons.1 ((h b).2 (by simp)) with e | h2
    ·exact e.symm
    ·exact absurd (hB.1 a h1) (has _ _ (hA.1 b h2))
  subst e
  congr 1
  refine sorted_ext has A B hA.2 hB.2 (fun x => ⟨fun hx => ?_, fun hx => ?_⟩)
  ·rcases List.mem_cons.1 ((h x).1 (by simp [hx])) with e | h1
   ·subst e; exact absurd (hA.1 x hx) (fun q => has _ _ q q)
   ·exact h1
  ·rcases List.mem_cons.1 ((h x).2 (by simp [hx])) with e | h1
   ·subst e; exact absurd (hB.1 x hx) (fun q => has _ _ q q)
   ·exact h1
end Go.Proofs.YtolkchkedieppaaGreat

/- sets as numbers, their members; the order of lists. -/
namespace Go.Proofs.YtolkchkedieppaaGreat
open Go.RowKit
/-- the bits of s below i -/
def mem (s i : Nat) : List Nat := (List.range i).filter (fun t => s.testBit t)
def intC (l : List Nat) : List Value := l.map (fun t => .int .i64 (t : Nat))
theorem i64_and1 (n : Int) : bits .and .i64 n 1 = n % 2 := by
 have h1 : (BitVec.ofInt 64 1).toNat = 2 ^ 1 - 1 := by decide
 have key : (BitVec.ofInt 64 n &&& BitVec.ofInt 64 1).toNat = (n % ((2 ^ 64 : Nat) : Int)).toNat % 2 ^ 1 := by
  rw [BitVec.toNat_and, BitVec.toNat_ofInt, h1, Nat.and_two_pow_sub_one_eq_mod]
 show IntKind.i64.wrap ((BitVec.ofInt 64 n &&& BitVec.ofInt 64 1).toNat : Nat) = n % 2
 rw [key, IntKind.wrap_i64]
 omega
theorem mem_succ (s i : Nat) : mem s (i + 1) = mem s i ++ if s.testBit i then [i] else [] := by
 unfold mem
 rw [List.range_succ, List.filter_append]
 congr 1
 by_cases h : s.testBit i <;> simp [h]
theorem mem_done (s i : Nat) (h : s < 2 ^ i) : ∀ k, mem s (i + k) = mem s i
 | 0 => rfl
 | k + 1 => by
  rw [← Nat.add_assoc, mem_succ, mem_done s i h k]
  have h2 : s < 2 ^ (i + k) := Nat.lt_of_lt_of_le h (Nat.pow_le_pow_right (by omega) (by omega))
  rw [Nat.testBit_lt_two_pow h2]
  simp
theorem mem_len (s : Nat) : ∀ i, (mem s i).length ≤ i
 | 0 => by simp [mem]
 | i + 1 => by
  rw [mem_succ, List.length_append]
  have := mem_len s i
  split <;> simp <;> omega
theorem intC_app (l : List Nat) (i : Nat) : intC l ++ [.int .i64 (i : Nat)] = intC (l ++ [i]) := by simp [intC]
/-- the order of lists -/
def lexN : List Nat → List Nat → Bool
 | [], [] => false
 | [], _ :: _ => true
 | _ :: _, [] => false
 | a :: x, b :: y => if a < b then true else if b < a then false else lexN x y
theorem lexN_asym : ∀ a b : List Nat, lexN a b = true → lexN b a = false
 | [], [], h => by cases h
 | [], _ :: _, _ => rfl
 | _ :: _, [], h => by cases h
 | a :: x, b :: y, h => by
  simp only [lexN] at h ⊢
  by_cases h1 : a < b
  ·rw [if_neg (by omega), if_pos h1]
  ·rw [if_neg h1] at h
   by_cases h2 : b < a
   ·rw [if_pos h2] at h; cases h
   ·rw [if_neg h2] at h
    rw [if_neg h2, if_neg h1]
    exact lexN_asym x y h
theorem lexN_trans : ∀ a b c : List Nat, lexN a b = true → lexN b c = true → lexN a c = true
 | [], [], _, h, _ => by cases h
 | [], _ :: _, [], _, h => by cases h
 | [], _ :: _, _ :: _, _, _ => rfl
 | _ :: _, [], _, h, _ => by cases h
 | _ :: _, _ :: _, [], _, h => by cases h
 | a :: x, b :: y, c :: z, h, k => by
  simp only [lexN] at h k ⊢
  by_cases h1 : a < b
  ·by_cases k1 : b < c
   ·rw [if_pos (by omega)]
   ·rw [if_neg k1] at k
    by_cases k2 : c < b
    ·rw [if_pos k2] at k; cases k
    ·rw [if_pos (by omega)]
  ·rw [if_neg h1] at h
   by_cases h2 : b < a
   ·rw [if_pos h2] at h; cases h
   ·rw [if_neg h2] at h
    by_cases k1 : b < c
    ·rw [if_pos (by omega)]
    ·rw [if_neg k1] at k
     by_cases k2 : c < b
     ·rw [if_pos k2] at k; cases k
     ·rw [if_neg k2] at k
      rw [if_neg (by omega), if_neg (by omega)]
      exact lexN_trans x y z h k
theorem lexN_total : ∀ a b : List Nat, a ≠ b → lexN a b = true ∨ lexN b a = true
 | [], [], h => absurd rfl h
 | [], _ :: _, _ => .inl rfl
 | _ :: _, [], _ => .inr rfl
 | a :: x, b :: y, h => by
  simp only [lexN]
  by_cases h1 : a < b
  ·left; rw [if_pos h1]
  ·by_cases h2 : b < a
   ·right; rw [if_pos h2]
   ·rw [if_neg h1, if_neg h2, if_neg h2, if_neg h1]
    refine lexN_total x y (fun e => h ?_)
    rw [e, show a = b by omega]
/-- a list's numbers -/
def lsF (a : List Nat) (i : Nat) : Int := ((a.getD i 0 : Nat) : Int)
theorem lexC_lex (a b : List Nat) : ∀ u k, u + k = a.length → (lexC (lsF a) (lsF b) a.length b.length u k < 0 ↔ lexN (a.drop k) (b.drop k) = true)
 | 0, k, h => by
  have e : a.drop k = [] := List.drop_eq_nil_of_le (by omega)
  rw [e]
  unfold lexC
  by_cases h1 : a.length < b.length
  ·rw [if_pos h1, List.drop_eq_getElem_cons (show k < b.length by omega)]; simp [lexN]
  ·rw [if_neg h1, List.drop_eq_nil_of_le (show b.length ≤ k by omega)]; simp [lexN]
 | u + 1, k, h => by
  have hk : k < a.length := by omega
  rw [List.drop_eq_getElem_cons hk]
  unfold lexC
  by_cases h1 : b.length ≤ k
  ·rw [if_pos h1, List.drop_eq_nil_of_le h1]; simp [lexN]
  ·have hb : k < b.length := by omega
   rw [if_neg h1, List.drop_eq_getElem_cons hb]
   have ea : lsF a k = ((a[k] : Nat) : Int) := by unfold lsF; rw [List.getD_eq_getElem?_getD, List.getElem?_eq_getElem hk]; rfl
   have eb : lsF b k = ((b[k] : Nat) : Int) := by unfold lsF; rw [List.getD_eq_getElem?_getD, List.getElem?_eq_getElem hb]; rfl
   rw [ea, eb]
   simp only [lexN]
   have hc : cmp3 ((a[k] : Nat) : Int) ((b[k] : Nat) : Int) = if a[k] < b[k] then -1 else if b[k] < a[k] then 1 else 0 := by
    unfold cmp3
    by_cases c1 : a[k] < b[k]
    ·rw [if_pos c1, if_pos (by omega)]
    ·rw [if_neg c1, if_neg (by omega)]
     by_cases c2 : b[k] < a[k]
     ·rw [if_pos c2, if_pos (by omega)]
     ·rw [if_neg c2, if_neg (by omega)]
   rw [hc]
   by_cases c1 : a[k] < b[k]
   ·rw [if_pos c1, if_pos c1]; simp
   ·rw [if_neg c1, if_neg c1]
    by_cases c2 : b[k] < a[k]
    ·rw [if_pos c2, if_pos c2]; simp
    ·rw [if_neg c2, if_neg c2, if_pos rfl]
     exact lexC_lex a b u (k + 1) (by omega)
theorem lex_sets (a b : List Nat) : lexC (lsF a) (lsF b) a.length b.length a.length 0 < 0 ↔ lexN a b = true := by
 have := lexC_lex a b a.length 0 (by omega)
 simpa using this
theorem mem_mem (s n i : Nat) : i ∈ mem s n ↔ i < n ∧ s.testBit i = true := by simp [mem]
theorem intC_ics (L : List Nat) : intC L = ics (fun i => ((L.getD i 0 : Nat) : Int)) L.length := by
 apply List.ext_getElem?
 intro i
 by_cases h : i < L.length
 ·rw [ics_get _ _ _ h]
  simp [intC, h, ic]
 ·rw [List.getElem?_eq_none (by simp [intC]; omega), List.getElem?_eq_none (by simp [ics]; omega)]
theorem list_ints {w : World} {B : Nat} {L : List Nat} {v : Value} (h : w.ownsRow B 3 1 v L.length (intC L)) : Ints w v L.length (lsF L) := by
 rw [intC_ics] at h; exact ints_of_own h
end Go.Proofs.YtolkchkedieppaaGreat

/- parts of a cut that are rectangles; plain law. -/
namespace Go.Proofs.YtolkchkedieppaaGreat
open Go.RowKit
theorem cvN_pos {S : List Tr} {x y : Int} : ∀ {k i : Nat}, i < k → inT (S.getD i default) x y → 0 < cvN S x y k
 | 0, i, h, _ => by omega
 | k + 1, i, h, q => by
  simp only [cvN]
  by_cases e : i = k
  ·subst e
   have := cvN_nn S x y i
   rw [if_pos q]; omega
  ·have := cvN_pos (S := S) (k := k) (i := i) (by omega) q
   split <;> omega
/-- squares apart that cover their rectangle are a cut -/
theorem cut_of_covers {L : List Tr} (h1 : 0 < L.length) (h2 : L.length ≤ 24) (hr : ∀ i, i < L.length → RgT (L.getD i default)) (ha : ∀ i j, j < i → i < L.length → ApT (L.getD i default) (L.getD j default))
  (hc : ∀ x y : Int, 0 ≤ x → x < wdT L L.length → 0 ≤ y → y < htT L L.length → ∃ i, i < L.length ∧ inT (L.getD i default) x y) : CutOK L := by
 refine ⟨h1, h2, hr, ha, ?_⟩
 have hm := meas_bound hr L.length (Nat.le_refl _)
 obtain ⟨W, hW⟩ := Int.eq_ofNat_of_zero_le hm.1
 obtain ⟨H, hH⟩ := Int.eq_ofNat_of_zero_le hm.2.2.1
 have hs := cvN_sum (W := W) (H := H) hr (fun i hi => by rw [← hW]; exact wdT_ge L _ i hi) (fun i hi => by rw [← hH]; exact htT_ge L _ i hi) L.length (Nat.le_refl _)
 have e1 : ∀ x, x < W → sumZ (fun y => cvN L (x : Int) (y : Int) L.length) H = (H : Int) := fun x hx => by
  have : ∀ y, y < H → cvN L (x : Int) (y : Int) L.length = 1 := fun y hy => by
   obtain ⟨i, hi, q⟩ := hc x y (by omega) (by omega) (by omega) (by omega)
   have := cvN_pos hi q
   have := cvN_le ha (x : Int) (y : Int) L.length (Nat.le_refl _)
   omega
  rw [sumZ_congr this, sumZ_const]; omega
 rw [← hs, sumZ_congr e1, sumZ_const, hW, hH]
theorem wdT_leI {S : List Tr} {W : Int} (h0 : 0 ≤ W) : ∀ k, k ≤ S.length → (∀ i, i < k → (S.getD i default).a + (S.getD i default).c ≤ W) → wdT S k ≤ W
 | 0, _, _ => h0
 | k + 1, hk, h => by
  have := wdT_leI h0 k (by omega) (fun i hi => h i (by omega))
  have := h k (by omega)
  simp only [wdT]; split <;> omega
theorem htT_leI {S : List Tr} {H : Int} (h0 : 0 ≤ H) : ∀ k, k ≤ S.length → (∀ i, i < k → (S.getD i default).b + (S.getD i default).c ≤ H) → htT S k ≤ H
 | 0, _, _ => h0
 | k + 1, hk, h => by
  have := htT_leI h0 k (by omega) (fun i hi => h i (by omega))
  have := h k (by omega)
  simp only [htT]; split <;> omega
/-- a square seen from another corner -/
def shT (x y : Int) (t : Tr) : Tr := ⟨t.a - x, t.b - y, t.c⟩
def InR (x0 y0 x1 y1 : Int) (t : Tr) : Prop := x0 ≤ t.a ∧ t.a + t.c ≤ x1 ∧ y0 ≤ t.b ∧ t.b + t.c ≤ y1
def OutR (x0 y0 x1 y1 : Int) (t : Tr) : Prop := t.a + t.c ≤ x0 ∨ x1 ≤ t.a ∨ t.b + t.c ≤ y0 ∨ y1 ≤ t.b
instance (a b c d : Int) (t : Tr) : Decidable (InR a b c d t) := by unfold InR; infer_instance
instance (a b c d : Int) (t : Tr) : Decidable (OutR a b c d t) := by unfold OutR; infer_instance
/-- the squares of some numbers -/
def prt (S : List Tr) (A : List Nat) : List Tr := A.map (fun i => S.getD i default)
/-- the first k squares that lie inside -/
def insF (S : List Tr) (x0 y0 x1 y1 : Int) (k : Nat) : List Nat := (List.range k).filter (fun i => decide (InR x0 y0 x1 y1 (S.getD i default)))
theorem insF_succ (S : List Tr) (x0 y0 x1 y1 : Int) (k : Nat) : insF S x0 y0 x1 y1 (k + 1) = if InR x0 y0 x1 y1 (S.getD k default) then insF S x0 y0 x1 y1 k ++ [k] else insF S x0 y0 x1 y1 k := by
 unfold insF
 rw [List.range_succ, List.filter_append]
 split
 ·rename_i h; simp only [List.filter_cons, List.filter_nil, decide_eq_true h, if_true]
 ·rename_i h; simp only [List.filter_cons, List.filter_nil, decide_eq_false h, Bool.false_eq_true, if_false, List.append_nil]
theorem insF_mem (S : List Tr) (x0 y0 x1 y1 : Int) (k i : Nat) : i ∈ insF S x0 y0 x1 y1 k ↔ i < k ∧ InR x0 y0 x1 y1 (S.getD i default) := by simp [insF]
theorem insF_len (S : List Tr) (x0 y0 x1 y1 : Int) : ∀ k, (insF S x0 y0 x1 y1 k).length ≤ k
 | 0 => by simp [insF]
 | k + 1 => by
  have := insF_len S x0 y0 x1 y1 k
  rw [insF_succ]; split <;> simp <;> omega
theorem insF_inc (S : List Tr) (x0 y0 x1 y1 : Int) (k : Nat) : (insF S x0 y0 x1 y1 k).Pairwise (· < ·) := (List.pairwise_lt_range).sublist List.filter_sublist
/-- the rectangle from the corner of square i to that of square j -/
structure RecP (S : List Tr) (i j : Nat) (A : List Nat) : Prop where
 w : (S.getD i default).a < (S.getD j default).a + (S.getD j default).c
 h : (S.getD i default).b < (S.getD j default).b + (S.getD j default).c
 io : ∀ k, k < S.length → InR (S.getD i default).a (S.getD i default).b ((S.getD j default).a + (S.getD j default).c) ((S.getD j default).b + (S.getD j default).c) (S.getD k default) ∨ OutR (S.getD i default).a (S.getD i default).b ((S.getD j default).a + (S.getD j default).c) ((S.getD j default).b + (S.getD j default).c) (S.getD k default)
 e : A = insF S (S.getD i default).a (S.getD i default).b ((S.getD j default).a + (S.getD j default).c) ((S.getD j default).b + (S.getD j default).c) S.length
 two : 2 ≤ A.length
 few : A.length < S.length
def CandP (S : List Tr) (A : List Nat) : Prop := ∃ i j, i < S.length ∧ j < S.length ∧ RecP S i j A
/-- a set of squares that covers a rectangle -/
structure RecR (S : List Tr) (x y : Int) (A : List Nat) : Prop where
 inc : A.Pairwise (· < ·)
 lt : ∀ i, i ∈ A → i < S.length
 two : 2 ≤ A.length
 few : A.length < S.length
 xl : ∀ i, i ∈ A → x ≤ (S.getD i default).a
 yl : ∀ i, i ∈ A → y ≤ (S.getD i default).b
 cut : CutOK ((prt S A).map (shT x y))
def CandR (S : List Tr) (A : List Nat) : Prop := ∃ x y, RecR S x y A
theorem prt_get (S : List Tr) {A : List Nat} (x y : Int) {k : Nat} (hk : k < A.length) : ((prt S A).map (shT x y)).getD k default = shT x y (S.getD A[k] default) := by
 simp [prt, hk]
theorem prt_len (S : List Tr) (A : List Nat) (x y : Int) : ((prt S A).map (shT x y)).length = A.length := by simp [prt]
theorem cut_ap {S : List Tr} (h : CutOK S) {i j : Nat} (hi : i < S.length) (hj : j < S.length) (hne : i ≠ j) : ApT (S.getD i default) (S.getD j default) := by
 rcases Nat.lt_or_gt_of_ne hne with q | q
 ·exact ApT.symm (h.ap j i q hj)
 ·exact h.ap i j q hi
theorem RecP.cand {S : List Tr} {A : List Nat} {i j : Nat} (hC : CutOK S) (hi : i < S.length) (hj : j < S.length) (h : RecP S i j A) :
  RecR S (S.getD i default).a (S.getD i default).b A := by
 obtain ⟨hw, hh, hio, he, h2, hf⟩ := h
 have ri := hC.rg i hi
 have rj := hC.rg j hj
 have wj := wdT_ge S S.length j hj
 have hj2 := htT_ge S S.length j hj
 have := ri.a0; have := ri.b0; have := ri.c0; have := rj.c0
 generalize hx0 : (S.getD i default).a = x0 at *
 generalize hy0 : (S.getD i default).b = y0 at *
 generalize hx1 : (S.getD j default).a + (S.getD j default).c = x1 at *
 generalize hy1 : (S.getD j default).b + (S.getD j default).c = y1 at *
 have hmem : ∀ k, k ∈ A ↔ k < S.length ∧ InR x0 y0 x1 y1 (S.getD k default) := fun k => by rw [he]; exact insF_mem S x0 y0 x1 y1 S.length k
 have hinc : A.Pairwise (· < ·) := by rw [he]; exact insF_inc _ _ _ _ _ _
 have hlt : ∀ k, k ∈ A → k < S.length := fun k hk => ((hmem k).1 hk).1
 have hin : ∀ k, k ∈ A → InR x0 y0 x1 y1 (S.getD k default) := fun k hk => ((hmem k).1 hk).2
 refine ⟨hinc, hlt, h2, hf, fun k hk => (hin k hk).1, fun k hk => (hin k hk).2.2.1, ?_⟩
 have hl := prt_len S A x0 y0
 refine cut_of_covers (by omega) (by have := hC.few; omega) (fun k hk => ?_) (fun k m hmk hk => ?_) (fun x y hx hx2 hy hy2 => ?_)
 ·rw [hl] at hk
  rw [prt_get S x0 y0 hk]
  have hA := List.getElem_mem hk
  have r := hC.rg _ (hlt _ hA)
  have q := hin _ hA
  unfold InR at q
  have := r.c1; have := r.a1; have := r.b1
  exact ⟨by simp only [shT]; omega, by simp only [shT]; omega, r.c0, r.c1, by simp only [shT]; omega, by simp only [shT]; omega⟩
 ·rw [hl] at hk
  rw [prt_get S x0 y0 hk, prt_get S x0 y0 (show m < A.length by omega)]
  have hne := List.pairwise_iff_getElem.1 hinc m k (by omega) hk hmk
  have := cut_ap hC (hlt _ (List.getElem_mem hk)) (hlt _ (List.getElem_mem (show m < A.length by omega))) (by omega)
  unfold ApT at *
  simp only [shT]; omega
 ·rw [hl] at hx2 hy2 ⊢
  have hx3 : wdT ((prt S A).map (shT x0 y0)) A.length ≤ x1 - x0 := wdT_leI (by omega) A.length (by omega) (fun k hk => by
   rw [prt_get S x0 y0 hk]
   have q := hin _ (List.getElem_mem hk)
   unfold InR at q
   simp only [shT]; omega)
  have hy3 : htT ((prt S A).map (shT x0 y0)) A.length ≤ y1 - y0 := htT_leI (by omega) A.length (by omega) (fun k hk => by
   rw [prt_get S x0 y0 hk]
   have q := hin _ (List.getElem_mem hk)
   unfold InR at q
   simp only [shT]; omega)
  obtain ⟨k, hk, q⟩ := hC.covers (x := x + x0) (y := y + y0) (by omega) (by omega) (by omega) (by omega)
  have hkA : k ∈ A := (hmem k).2 ⟨hk, (hio k hk).elim id (fun o => by unfold OutR at o; unfold inT at q; omega)⟩
  obtain ⟨m, hm, hme⟩ := List.getElem_of_mem hkA
  refine ⟨m, hm, ?_⟩
  rw [prt_get S x0 y0 hm, hme]
  unfold inT at *
  simp only [shT]; omega
theorem RecR.candP {S : List Tr} {A : List Nat} {x y : Int} (hC : CutOK S) (h : RecR S x y A) : CandP S A := by
 obtain ⟨hinc, hlt, h2, hf, hxl, hyl, hcut⟩ := h
 have hl := prt_len S A x y
 have hpos := hcut.pos
 have hm := meas_bound hcut.rg ((prt S A).map (shT x y)).length (Nat.le_refl _)
 have r0 := hcut.rg 0 hpos
 have w0 := wdT_ge ((prt S A).map (shT x y)) ((prt S A).map (shT x y)).length 0 hpos
 have h0 := htT_ge ((prt S A).map (shT x y)) ((prt S A).map (shT x y)).length 0 hpos
 have := r0.a0; have := r0.b0; have := r0.c0
 obtain ⟨W, hW⟩ : ∃ W, W = wdT ((prt S A).map (shT x y)) ((prt S A).map (shT x y)).length := ⟨_, rfl⟩
 obtain ⟨H, hH⟩ : ∃ H, H = htT ((prt S A).map (shT x y)) ((prt S A).map (shT x y)).length := ⟨_, rfl⟩
 have hcov := fun (u v : Int) => hcut.covers (x := u) (y := v)
 have hwge : ∀ k, (hk : k < A.length) → (S.getD A[k] default).a - x + (S.getD A[k] default).c ≤ W := fun k hk => by
  have := wdT_ge ((prt S A).map (shT x y)) ((prt S A).map (shT x y)).length k (show k < ((prt S A).map (shT x y)).length by omega)
  rw [prt_get S x y hk, ← hW] at this
  exact this
 have hhge : ∀ k, (hk : k < A.length) → (S.getD A[k] default).b - y + (S.getD A[k] default).c ≤ H := fun k hk => by
  have := htT_ge ((prt S A).map (shT x y)) ((prt S A).map (shT x y)).length k (show k < ((prt S A).map (shT x y)).length by omega)
  rw [prt_get S x y hk, ← hH] at this
  exact this
 rw [← hW] at hcov hm w0
 rw [← hH] at hcov hm h0
 rw [hl] at hcov
 have hcov2 : ∀ u v : Int, x ≤ u → u < x + W → y ≤ v → v < y + H → ∃ k, ∃ hk : k < A.length, inT (S.getD A[k] default) u v := fun u v a1 a2 a3 a4 => by
  obtain ⟨k, hk, q⟩ := hcov (u - x) (v - y) (by omega) (by omega) (by omega) (by omega)
  rw [prt_get S x y hk] at q
  refine ⟨k, hk, ?_⟩
  unfold inT at *
  simp only [shT] at q; omega
 obtain ⟨ki, hki, qi⟩ := hcov2 x y (by omega) (by omega) (by omega) (by omega)
 obtain ⟨kj, hkj, qj⟩ := hcov2 (x + W - 1) (y + H - 1) (by omega) (by omega) (by omega) (by omega)
 have mi := List.getElem_mem hki
 have mj := List.getElem_mem hkj
 have x1 := hxl _ mi
 have y1 := hyl _ mi
 have x2 := hwge kj hkj
 have y2 := hhge kj hkj
 unfold inT at qi qj
 have ea : (S.getD A[ki] default).a = x := by omega
 have eb : (S.getD A[ki] default).b = y := by omega
 have ec : (S.getD A[kj] default).a + (S.getD A[kj] default).c = x + W := by omega
 have ed : (S.getD A[kj] default).b + (S.getD A[kj] default).c = y + H := by omega
 have hin : ∀ k, k ∈ A → InR x y (x + W) (y + H) (S.getD k default) := fun k hk => by
  obtain ⟨m, hm, rfl⟩ := List.getElem_of_mem hk
  have a1 := hxl _ hk
  have a2 := hyl _ hk
  have a3 := hwge m hm
  have a4 := hhge m hm
  unfold InR; omega
 have hout : ∀ k, k < S.length → k ∉ A → OutR x y (x + W) (y + H) (S.getD k default) := fun k hk hn => by
  refine Classical.byContradiction (fun q => ?_)
  have rk := hC.rg k hk
  have := rk.c0
  unfold OutR at q
  obtain ⟨m, hm, p⟩ := hcov2 (max x (S.getD k default).a) (max y (S.getD k default).b) (by omega) (by omega) (by omega) (by omega)
  have hne : k ≠ A[m] := fun e => hn (by rw [e]; exact List.getElem_mem hm)
  have ap := cut_ap hC hk (hlt _ (List.getElem_mem hm)) hne
  exact apT_in ap (x := max x (S.getD k default).a) (y := max y (S.getD k default).b) (by unfold inT; omega) p
 refine ⟨A[ki], A[kj], hlt _ mi, hlt _ mj, ?_⟩
 constructor
 ·rw [ea, ec]; omega
 ·rw [eb, ed]; omega
 ·intro k hk
  rw [ea, eb, ec, ed]
  by_cases e : k ∈ A
  ·exact .inl (hin k e)
  ·exact .inr (hout k hk e)
 ·rw [ea, eb, ec, ed]
  refine sorted_ext (R := (· < ·)) (fun a b q => by omega) A _ hinc (insF_inc _ _ _ _ _ _) (fun k => ?_)
  rw [insF_mem]
  constructor
  ·exact fun hk => ⟨hlt k hk, hin k hk⟩
  ·rintro ⟨hk, q⟩
   refine Classical.byContradiction (fun e => ?_)
   have := hout k hk e
   have := (hC.rg k hk).c0
   unfold InR at q
   unfold OutR at *
   omega
 ·exact h2
 ·exact hf
theorem cand_iff {S : List Tr} (hC : CutOK S) (A : List Nat) : CandP S A ↔ CandR S A :=
 ⟨fun ⟨i, j, hi, hj, h⟩ => ⟨_, _, h.cand hC hi hj⟩, fun ⟨x, y, h⟩ => h.candP hC⟩
/-- the order in which parts are preferred -/
def ltA (A B : List Nat) : Prop := A.length < B.length ∨ (A.length = B.length ∧ lexN A B = true)
theorem ltA_asym {A B : List Nat} (h : ltA A B) : ¬ ltA B A := by
 unfold ltA at *
 rcases h with h | ⟨h, h2⟩
 ·omega
 ·rintro (k | ⟨k, k2⟩)
  ·omega
  ·rw [lexN_asym A B h2] at k2; cases k2
theorem ltA_trans {A B C : List Nat} (h : ltA A B) (k : ltA B C) : ltA A C := by
 unfold ltA at *
 rcases h with h | ⟨h, h2⟩ <;> rcases k with k | ⟨k, k2⟩
 ·left; omega
 ·left; omega
 ·left; omega
 ·right; exact ⟨by omega, lexN_trans _ _ _ h2 k2⟩
theorem ltA_total {A B : List Nat} (h : A ≠ B) : ltA A B ∨ ltA B A := by
 unfold ltA
 rcases Nat.lt_trichotomy A.length B.length with q | q | q
 ·exact .inl (.inl q)
 ·rcases lexN_total A B h with k | k
  ·exact .inl (.inr ⟨q, k⟩)
  ·exact .inr (.inr ⟨q.symm, k⟩)
 ·exact .inr (.inl q)
/-- the best of those that satisfy C; the empty list if there is none -/
structure BestL (C : List Nat → Prop) (b : List Nat) : Prop where
 is : b ≠ [] → C b
 no : ∀ A, C A → b ≠ [] ∧ ¬ ltA A b
theorem BestL.none (C : List Nat → Prop) (h : ∀ A, ¬ C A) : BestL C [] := ⟨fun e => absurd rfl e, fun A hA => absurd hA (h A)⟩
theorem BestL.uniq {C D : List Nat → Prop} {a b : List Nat} (h : ∀ A, C A ↔ D A) (ha : BestL C a) (hb : BestL D b) : a = b := by
 by_cases e : a = []
 ·by_cases f : b = []
  ·rw [e, f]
  ·exact absurd e (ha.no b ((h b).2 (hb.is f))).1
 ·have h1 := ha.is e
  obtain ⟨f, h2⟩ := hb.no a ((h a).1 h1)
  have h3 := (ha.no b ((h b).2 (hb.is f))).2
  refine Classical.byContradiction (fun hne => ?_)
  rcases ltA_total hne with q | q
  ·exact h2 q
  ·exact h3 q
theorem BestL.keep {C D : List Nat → Prop} {b : List Nat} (h : BestL C b) (hD : ∀ A, D A → C A ∨ (b ≠ [] ∧ ¬ ltA A b)) (hC : ∀ A, C A → D A) : BestL D b :=
 ⟨fun e => hC b (h.is e), fun A hA => (hD A hA).elim (h.no A) id⟩
theorem BestL.take {C D : List Nat → Prop} {b A : List Nat} (h : BestL C b) (hA : A ≠ []) (hb : b = [] ∨ ltA A b) (hD : ∀ B, D B ↔ C B ∨ B = A) : BestL D A :=
 ⟨fun _ => (hD A).2 (.inr rfl), fun B hB => ⟨hA, by
  rcases (hD B).1 hB with q | rfl
  ·obtain ⟨n1, n2⟩ := h.no B q
   rcases hb with e | e
   ·exact absurd e n1
   ·exact fun k => n2 (ltA_trans k e)
  ·exact fun k => ltA_asym k k⟩⟩
/-- every such list is a set's -/
theorem set_ex {n : Nat} : ∀ (A : List Nat), A.Pairwise (· < ·) → (∀ i, i ∈ A → i < n) → ∃ s, s < 2 ^ n ∧ mem s n = A := fun A hA hn => by
 have key : ∀ k, ∃ s, s < 2 ^ k ∧ ∀ i, s.testBit i = decide (i ∈ A ∧ i < k) := fun k => by
  induction k with
  | zero => exact ⟨0, by simp, fun i => by simp⟩
  | succ k ih =>
   obtain ⟨s, hs, hb⟩ := ih
   by_cases hk : k ∈ A
   ·refine ⟨2 ^ k + s, by rw [Nat.pow_succ]; omega, fun i => ?_⟩
    rcases Nat.lt_trichotomy i k with q | q | q
    ·rw [Nat.testBit_two_pow_add_gt q, hb]
     simp only [q, and_true, show i < k + 1 by omega]
    ·subst q
     rw [Nat.testBit_two_pow_add_eq, hb]
     simp [hk]
    ·rw [Nat.testBit_lt_two_pow (show 2 ^ k + s < 2 ^ i from Nat.lt_of_lt_of_le (by rw [Nat.pow_succ]; omega : 2 ^ k + s < 2 ^ (k + 1)) (Nat.pow_le_pow_right (by omega) q))]
     simp; omega
   ·refine ⟨s, by rw [Nat.pow_succ]; omega, fun i => ?_⟩
    rw [hb]
    by_cases e : i = k
    ·subst e; simp [hk]
    ·simp only [show (i < k ↔ i < k + 1) by omega]
 obtain ⟨s, hs, hb⟩ := key n
 refine ⟨s, hs, sorted_ext (R := (· < ·)) (fun a b q => by omega) _ _ ((List.pairwise_lt_range).sublist List.filter_sublist) hA (fun i => ?_)⟩
 rw [mem_mem, hb]
 simp only [decide_eq_true_eq]
 exact ⟨fun h => h.2.1, fun h => ⟨hn i h, h, hn i h⟩⟩
end Go.Proofs.YtolkchkedieppaaGreat
