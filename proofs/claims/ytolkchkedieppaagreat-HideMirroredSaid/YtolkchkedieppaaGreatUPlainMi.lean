/- Arguments of the laws, opened: numbers without a sign. -/
import Derived.Test.YtolkchkedieppaaGreatUSortSq
import Derived.Test.YtolkchkedieppaaGreatUPlainCp
set_option linter.unusedVariables false
set_option linter.unusedSimpArgs false
namespace Go.Proofs.YtolkchkedieppaaGreat
open Go.ChangeShapes Go.WideShapes Go.ChangeAt Go.RowKit Go.Deep
section
variable {H : Type} {enc : TypeId × Value → H}
set_option maxRecDepth 100000 in
/-- numbers without a sign, opened -/
theorem nats_of_trod {W : World} {base t e : Nat} {k : IntKind} {v : Value} {d : DataW H} {ps : List MemPlace} {B : Int} (ht : Tryz.prog.underlying t = some (.slice e)) (he : Tryz.prog.underlying e = some (.int k)) (hc : Tryz.prog.cellsOf e = 1)
  (hB : ∀ z, (Lit.int k z).wf = true → 0 ≤ z ∧ z < B) (hv : Value.okWide Tryz.prog W .any base t v) (h : DataW.Trod enc Tryz.prog W 0 (fun _ => true) true t v d ps) :
  ∃ (n : Nat) (g : Nat → Nat), Sl W v n (fun i => .int k (g i : Nat)) ∧ (∀ i, i < n → ((g i : Nat) : Int) < B) ∧ n ≤ maxLen := by
 obtain ⟨a0, len, cap, rfl⟩ := okWide_slice ht hv
 obtain ⟨fuel, hf⟩ := h
 rcases open_ints ht he hc hf with ⟨hcs, hx⟩ | ⟨a, len', cap', zs, hcs, _, hl, hm, hz, hx, hcell, hwz⟩
 ·simp [Value.cells] at hcs
  obtain ⟨rfl, rfl, rfl⟩ := hcs
  exact ⟨0, fun _ => 0, ⟨_, _, _, _, rfl, sl_none W _⟩, fun i hi => absurd hi (Nat.not_lt_zero i), Nat.zero_le _⟩
 ·simp [Value.cells] at hcs
  obtain ⟨rfl, rfl, rfl⟩ := hcs
  simp only [if_true] at hz
  have hb : ∀ i, i < len → 0 ≤ zs.getD i 0 ∧ zs.getD i 0 < B := fun i hi => hB _ (hwz _ (by
   have : i < zs.length := by omega
   rw [List.getD_eq_getElem?_getD, List.getElem?_eq_getElem this]
   exact List.getElem_mem this))
  obtain ⟨b, o, hs⟩ := sl_of_cells (w := W) (a := a) (g := fun i => .int k (((zs.getD i 0).toNat : Nat) : Int)) hl (fun i hi => by
   rw [hcell i (by omega), Int.toNat_of_nonneg (hb i hi).1])
  exact ⟨len, fun i => (zs.getD i 0).toNat, ⟨_, _, _, _, rfl, hs⟩, fun i hi => by rw [Int.toNat_of_nonneg (hb i hi).1]; exact (hb i hi).2, Nat.le_trans hl hm⟩
theorem wf_u8 (z : Int) (h : (Lit.int .u8 z).wf = true) : 0 ≤ z ∧ z < 256 := by
 have : 0 ≤ z ∧ z ≤ 255 := by simpa [Lit.wf, IntKind.min, IntKind.max, IntKind.signed, IntKind.bits] using h
 omega
end
end Go.Proofs.YtolkchkedieppaaGreat

/- the squares of a part mirrored within their rectangle; plain law. -/
namespace Go.Proofs.YtolkchkedieppaaGreat
open Go.RowKit
/-- a square mirrored between two places -/
def mirT (f t : Int) (q : Tr) : Tr := ⟨f + t - q.a - q.c, q.b, q.c⟩
/-- the first j squares of A mirrored -/
def mirF (S : List Tr) (A : List Nat) (f t : Int) : Nat → List Tr
 | 0 => S
 | j + 1 => (mirF S A f t j).set (A.getD j 0) (mirT f t (S.getD (A.getD j 0) default))
theorem mirF_len (S : List Tr) (A : List Nat) (f t : Int) : ∀ j, (mirF S A f t j).length = S.length
 | 0 => rfl
 | j + 1 => by rw [mirF, List.length_set, mirF_len S A f t j]
theorem take_succ_nat (A : List Nat) {j : Nat} (h : j < A.length) : A.take (j + 1) = A.take j ++ [A.getD j 0] := by
 rw [List.take_add_one]; simp [h]
theorem mirF_get (S : List Tr) (A : List Nat) (f t : Int) (hA : ∀ i, i ∈ A → i < S.length) : ∀ j, j ≤ A.length → ∀ k, k < S.length → (mirF S A f t j).getD k default = if k ∈ A.take j then mirT f t (S.getD k default) else S.getD k default
 | 0, _, k, hk => by simp [mirF]
 | j + 1, hj, k, hk => by
  have ih := mirF_get S A f t hA j (by omega) k hk
  have hl := mirF_len S A f t j
  rw [take_succ_nat A (by omega)]
  simp only [mirF]
  by_cases e : A.getD j 0 = k
  ·rw [e]
   have h1 : ((mirF S A f t j).set k (mirT f t (S.getD k default))).getD k default = mirT f t (S.getD k default) := by
    rw [List.getD_eq_getElem?_getD, List.getElem?_set_self (by rw [hl]; exact hk)]; rfl
   rw [h1, if_pos (by simp)]
  ·have h1 : ((mirF S A f t j).set (A.getD j 0) (mirT f t (S.getD (A.getD j 0) default))).getD k default = (mirF S A f t j).getD k default := by
    rw [List.getD_eq_getElem?_getD, List.getElem?_set_ne e, ← List.getD_eq_getElem?_getD]
   rw [h1, ih]
   have h2 : k ∈ A.take j ++ [A.getD j 0] ↔ k ∈ A.take j := by
    rw [List.mem_append, List.mem_singleton]
    exact ⟨fun h => h.elim id (fun h => absurd h.symm e), .inl⟩
   simp only [h2]
theorem sumC_cs : ∀ {L M : List Tr}, L.map (fun t => t.c) = M.map (fun t => t.c) → sumC L = sumC M
 | [], [], _ => rfl
 | [], _ :: _, h => by simp at h
 | _ :: _, [], h => by simp at h
 | x :: L, y :: M, h => by
  simp only [List.map_cons, List.cons.injEq] at h
  simp only [sumC]
  rw [sumC_cs h.2, h.1]
theorem mirF_cs (S : List Tr) (A : List Nat) (f t : Int) (hA : ∀ i, i ∈ A → i < S.length) : (mirF S A f t A.length).map (fun t => t.c) = S.map (fun t => t.c) := by
 have hl := mirF_len S A f t A.length
 apply List.ext_getElem
 ·simp [hl]
 ·intro k h1 h2
  simp only [List.length_map] at h1 h2
  have g := mirF_get S A f t hA A.length (Nat.le_refl _) k h2
  have e1 : (mirF S A f t A.length).getD k default = (mirF S A f t A.length)[k] := by simp [h1]
  have e2 : S.getD k default = S[k] := by simp [h2]
  rw [e1, e2] at g
  simp only [List.getElem_map]
  rw [g]
  split <;> rfl
/-- the bounds of a part, as the law reckons them -/
structure FrTo (S : List Tr) (A : List Nat) (f t : Int) : Prop where
 fl : ∀ i, i ∈ A → f ≤ (S.getD i default).a
 tl : ∀ i, i ∈ A → (S.getD i default).a + (S.getD i default).c ≤ t
 fa : f = 1000 ∨ ∃ i, i ∈ A ∧ (S.getD i default).a = f
 ta : t = 0 ∨ ∃ i, i ∈ A ∧ (S.getD i default).a + (S.getD i default).c = t
theorem FrTo.start (S : List Tr) : FrTo S [] 1000 0 := ⟨fun i h => by simp at h, fun i h => by simp at h, .inl rfl, .inl rfl⟩
theorem FrTo.push {S : List Tr} {A : List Nat} {f t : Int} {k : Nat} (h : FrTo S A f t) : FrTo S (A ++ [k]) (min f (S.getD k default).a) (max t ((S.getD k default).a + (S.getD k default).c)) := by
 refine ⟨fun i hi => ?_, fun i hi => ?_, ?_, ?_⟩
 ·rcases List.mem_append.1 hi with hi | hi
  ·have := h.fl i hi; omega
  ·rw [List.mem_singleton] at hi; subst hi; omega
 ·rcases List.mem_append.1 hi with hi | hi
  ·have := h.tl i hi; omega
  ·rw [List.mem_singleton] at hi; subst hi; omega
 ·by_cases e : (S.getD k default).a < f
  ·exact .inr ⟨k, by simp, by omega⟩
  ·rcases h.fa with q | ⟨i, hi, q⟩
   ·exact .inl (by omega)
   ·exact .inr ⟨i, by simp [hi], by omega⟩
 ·by_cases e : t < (S.getD k default).a + (S.getD k default).c
  ·exact .inr ⟨k, by simp, by omega⟩
  ·rcases h.ta with q | ⟨i, hi, q⟩
   ·exact .inl (by omega)
   ·exact .inr ⟨i, by simp [hi], by omega⟩
theorem mir_mk {S : List Tr} {A : List Nat} {W H : Nat} {f t : Int} (hm : MkC S W H) (hn : S.length ≤ 24) (hA : CandP S A) (hft : FrTo S A f t) : MkC (mirF S A f t A.length) W H := by
 obtain ⟨i, j, hi, hj, hw, hh, hio, he, h2, hf⟩ := hA
 have hC := hm.cut hn
 have ri := hC.rg i hi
 have rj := hC.rg j hj
 have mi := hm.rg _ (getD_memT hi)
 have mj := hm.rg _ (getD_memT hj)
 have := ri.a0; have := ri.b0; have := ri.c0; have := rj.c0; have := rj.a0; have := rj.b0
 have gj := wdT_ge S S.length j hj
 generalize hx0 : (S.getD i default).a = x0 at *
 generalize hy0 : (S.getD i default).b = y0 at *
 generalize hx1 : (S.getD j default).a + (S.getD j default).c = x1 at *
 generalize hy1 : (S.getD j default).b + (S.getD j default).c = y1 at *
 have hmem : ∀ k, k ∈ A ↔ k < S.length ∧ InR x0 y0 x1 y1 (S.getD k default) := fun k => by rw [he]; exact insF_mem S x0 y0 x1 y1 S.length k
 have hlt : ∀ k, k ∈ A → k < S.length := fun k hk => ((hmem k).1 hk).1
 have hin : ∀ k, k ∈ A → InR x0 y0 x1 y1 (S.getD k default) := fun k hk => ((hmem k).1 hk).2
 have hout : ∀ k, k < S.length → k ∉ A → OutR x0 y0 x1 y1 (S.getD k default) := fun k hk hn => (hio k hk).elim (fun q => absurd ((hmem k).2 ⟨hk, q⟩) hn) id
 have hiA : i ∈ A := (hmem i).2 ⟨hi, (hio i hi).elim id (fun o => by unfold OutR at o; omega)⟩
 have hjA : j ∈ A := (hmem j).2 ⟨hj, (hio j hj).elim id (fun o => by unfold OutR at o; omega)⟩
 have ef : f = x0 := by
  have a := hft.fl i hiA
  rcases hft.fa with q | ⟨k, hk, q⟩
  ·have := mi.2.2.2.1; have := hm.wb; omega
  ·have := (hin k hk).1; omega
 have et : t = x1 := by
  have a := hft.tl j hjA
  rcases hft.ta with q | ⟨k, hk, q⟩
  ·omega
  ·have := (hin k hk).2.1; omega
 subst ef et
 have hl := mirF_len S A f t A.length
 have hg : ∀ k, (hk : k < S.length) → (mirF S A f t A.length)[k]'(by rw [hl]; exact hk) = if k ∈ A then mirT f t (S.getD k default) else S.getD k default := fun k hk => by
  have := mirF_get S A f t hlt A.length (Nat.le_refl _) k hk
  rw [List.take_length] at this
  rw [← this]; simp [hl, hk]
 have hsz := sumC_cs (mirF_cs S A f t hlt)
 refine ⟨by rw [hl]; exact hm.pos, hm.w1, hm.h1, hm.wb, hm.hb, fun q hq => ?_, ?_, by rw [hsz]; exact hm.ar, ?_, ?_⟩
 ·obtain ⟨k, hk, rfl⟩ := List.getElem_of_mem hq
  rw [hl] at hk
  rw [hg k hk]
  have r := hm.rg _ (getD_memT hk)
  by_cases e : k ∈ A
  ·rw [if_pos e]
   have q := hin k e
   unfold InR at q
   simp only [mirT]
   omega
  ·rw [if_neg e]; exact r
 ·rw [List.pairwise_iff_getElem]
  intro k m hk hm2 hkm
  rw [hl] at hk hm2
  rw [hg k hk, hg m hm2]
  have ap := cut_ap hC hm2 hk (by omega)
  by_cases e : k ∈ A <;> by_cases e2 : m ∈ A
  ·rw [if_pos e, if_pos e2]
   unfold ApT at *
   simp only [mirT]; omega
  ·rw [if_pos e, if_neg e2]
   have q := hin k e
   have o := hout m hm2 e2
   unfold InR at q
   unfold OutR at o
   unfold ApT
   simp only [mirT]; omega
  ·rw [if_neg e, if_pos e2]
   have q := hin m e2
   have o := hout k hk e
   unfold InR at q
   unfold OutR at o
   unfold ApT
   simp only [mirT]; omega
  ·rw [if_neg e, if_neg e2]; exact ap
 ·obtain ⟨q, hq, hqe⟩ := hm.mw
  obtain ⟨k, hk, rfl⟩ := List.getElem_of_mem hq
  have e0 : S.getD k default = S[k] := by simp [hk]
  by_cases e : k ∈ A
  ·have q1 := (hin k e).2.1
   rw [e0] at q1
   refine ⟨_, List.getElem_mem (show i < (mirF S A f t A.length).length by rw [hl]; exact hi), ?_⟩
   rw [hg i hi, if_pos hiA]
   simp only [mirT]
   omega
  ·refine ⟨_, List.getElem_mem (show k < (mirF S A f t A.length).length by rw [hl]; exact hk), ?_⟩
   rw [hg k hk, if_neg e, e0]; exact hqe
 ·obtain ⟨q, hq, hqe⟩ := hm.mh
  obtain ⟨k, hk, rfl⟩ := List.getElem_of_mem hq
  have e0 : S.getD k default = S[k] := by simp [hk]
  refine ⟨_, List.getElem_mem (show k < (mirF S A f t A.length).length by rw [hl]; exact hk), ?_⟩
  rw [hg k hk, e0]
  split <;> exact hqe
theorem trL_set0 : ∀ (P : List Tr) (i : Nat) (v : Int), i < P.length → (trL P).set (i * 3) (.int .i64 v) = trL (P.set i ⟨v, (P.getD i default).b, (P.getD i default).c⟩)
 | [], i, v, h => by simp at h
 | p :: P, 0, v, h => by simp [trL, trC]
 | p :: P, i + 1, v, h => by
  have ih := trL_set0 P i v (by simpa using h)
  simp only [trL, List.set_cons_succ]
  rw [show (p :: P).getD (i + 1) default = P.getD i default by simp, ← ih, List.set_append_right _ _ (by simp [trC]; omega)]
  congr 2
  simp [trC]; omega
end Go.Proofs.YtolkchkedieppaaGreat
