/- Arguments of the laws, opened: numbers without a sign. -/
import Derived.Test.YtolkchkedieppaaGreatVPlainLy
import Derived.Test.YtolkchkedieppaaGreatVOwnI
import Derived.Test.YtolkchkedieppaaGreatVOrd
import Derived.Test.YtolkchkedieppaaGreatVLast
import Derived.Test.YtolkchkedieppaaGreatVLayB
set_option linter.unusedVariables false
set_option linter.unusedSimpArgs false
namespace Go.Proofs.YtolkchkedieppaaGreat
open Go.ChangeShapes Go.WideShapes Go.ChangeAt Go.RowKit Go.Deep
section
variable {H : Type} {enc : TypeId × Value → H}
theorem wf_u8 (z : Int) (h : (Lit.int .u8 z).wf = true) : 0 ≤ z ∧ z < 256 := by
 have : 0 ≤ z ∧ z ≤ 255 := by simpa [Lit.wf, IntKind.min, IntKind.max, IntKind.signed, IntKind.bits] using h
 omega
end
end Go.Proofs.YtolkchkedieppaaGreat

/- Cuts and codes that level a floor; exchanged sides; Euclid's cut. -/
namespace Go.Proofs.YtolkchkedieppaaGreat
open Go.RowKit
/-- the squares that a code lays on a floor -/
structure LyT (W : Nat) (H : Int) (F : Nat → Int) (S : List Tr) : Prop where
 rg : ∀ t, t ∈ S → 0 ≤ t.a ∧ 0 ≤ t.b ∧ 1 ≤ t.c ∧ t.a + t.c ≤ (W : Int) ∧ t.b + t.c ≤ H
 up : ∀ t, t ∈ S → ∀ x : Nat, t.a ≤ (x : Int) → (x : Int) < t.a + t.c → F x ≤ t.b
 ap : S.Pairwise (fun p q => ApT q p)
 so : S.Pairwise (fun a b => ¬ ltS b a)
 ar : sumC S = arF H F W
 tp : ∀ x : Nat, x < W → F x < H → ∃ t, t ∈ S ∧ t.a ≤ (x : Int) ∧ (x : Int) < t.a + t.c ∧ t.b + t.c = H
theorem lyT_sol {W : Nat} {H : Int} (hW : 1 ≤ W) : ∀ (l : List Nat) (F : Nat → Int), FlR W H F → SolP W H l F → ∃ S, LyT W H F S ∧ szL S = l
 | [], F, hF, hs => by
  have hs : F (loP W F) = H := hs
  refine ⟨[], ⟨fun t ht => by simp at ht, fun t ht => by simp at ht, List.Pairwise.nil, List.Pairwise.nil, ?_, fun x hx h => ?_⟩, rfl⟩
  ·rw [arF_level hF hs W (Nat.le_refl _)]; rfl
  ·have := loP_min (F := F) x hx; omega
 | s :: l, F, hF, ⟨h1, h2, h3, h4, h5, h6⟩ => by
  obtain ⟨S, g, e⟩ := lyT_sol hW l _ (hF.put h4 h5) h6
  have hp := loP_lt (F := F) hW
  have h0 := (hF _ hp).1
  obtain ⟨p, hpe⟩ : ∃ p, p = loP W F := ⟨_, rfl⟩
  rw [← hpe] at h1 h3 h4 h5 h6 g hp h0
  have hmin : ∀ i, i < W → F p ≤ F i := fun i hi => by rw [hpe]; exact loP_min i hi
  have hfst : ∀ i, i < p → F p < F i := fun i hi => by
   have h9 : i < minAt F (W - 1) := by have e9 : p = minAt F (W - 1) := hpe; omega
   have := minAt_first F (W - 1) i h9
   rw [hpe]; exact this
  have pin : ∀ x, p ≤ x → x < p + s → putF F p s x = F x + s := fun x a b => by unfold putF; rw [if_pos ⟨a, b⟩]
  have pge : ∀ x, F x ≤ putF F p s x := fun x => by unfold putF; split <;> omega
  have hrow : ∀ x, p ≤ x → x < p + s → F x = F p := fun x a b => by
   have := h4 (x - p) (by omega)
   rwa [show p + (x - p) = x by omega] at this
  have hcol : ∀ t, t ∈ S → ∃ x : Nat, (x : Int) = t.a ∧ x < W := fun t ht => by
   obtain ⟨a1, a2, a3, a4, a5⟩ := g.rg t ht
   exact ⟨t.a.toNat, by omega, by omega⟩
  refine ⟨⟨(p : Int), F p, (s : Int)⟩ :: S, ⟨?_, ?_, ?_, ?_, ?_, ?_⟩, by simp only [szL, List.map_cons, Int.toNat_natCast]; rw [← e]; rfl⟩
  ·intro t ht
   rcases List.mem_cons.1 ht with rfl | ht
   ·exact ⟨by simp only; omega, h0, by simp only; omega, by simp only; omega, h5⟩
   ·exact g.rg t ht
  ·intro t ht x ha hb
   rcases List.mem_cons.1 ht with rfl | ht
   ·simp only at ha hb ⊢
    rw [hrow x (by omega) (by omega)]; exact Int.le_refl _
   ·exact Int.le_trans (pge x) (g.up t ht x ha hb)
  ·refine List.Pairwise.cons (fun t ht => ?_) g.ap
   obtain ⟨a1, a2, a3, a4, a5⟩ := g.rg t ht
   unfold ApT
   simp only
   by_cases e1 : t.a + t.c ≤ (p : Int)
   ·exact .inl e1
   ·by_cases e2 : (p : Int) + s ≤ t.a
    ·exact .inr (.inl e2)
    ·obtain ⟨x, hx1, hx2, hx3, hx4⟩ : ∃ x : Nat, p ≤ x ∧ x < p + s ∧ t.a ≤ (x : Int) ∧ (x : Int) < t.a + t.c := by
      by_cases e3 : t.a ≤ (p : Int)
      ·exact ⟨p, by omega, by omega, e3, by omega⟩
      ·exact ⟨t.a.toNat, by omega, by omega, by omega, by omega⟩
     have := g.up t ht x hx3 hx4
     rw [pin x hx1 hx2, hrow x hx1 hx2] at this
     exact .inr (.inr (.inr this))
  ·refine List.Pairwise.cons (fun t ht => ?_) g.so
   obtain ⟨x, hx1, hx2⟩ := hcol t ht
   obtain ⟨a1, a2, a3, a4, a5⟩ := g.rg t ht
   have hu := g.up t ht x (by omega) (by omega)
   have h7 := pge x
   have h8 := hmin x hx2
   unfold ltS
   simp only
   rintro (q | ⟨q1, q2⟩)
   ·omega
   ·have := hfst x (by omega); omega
  ·have h9 := g.ar
   rw [arF_put, show min W (p + s) - p = s by omega] at h9
   simp only [sumC]
   omega
  ·intro x hx hlt
   by_cases e5 : putF F p s x < H
   ·obtain ⟨t, ht, q1, q2, q3⟩ := g.tp x hx e5
    exact ⟨t, List.mem_cons_of_mem _ ht, q1, q2, q3⟩
   ·have e6 : p ≤ x ∧ x < p + s := by
     refine Classical.byContradiction (fun q => e5 ?_)
     unfold putF; rw [if_neg q]; exact hlt
    rw [pin x e6.1 e6.2, hrow x e6.1 e6.2] at e5
    exact ⟨⟨(p : Int), F p, (s : Int)⟩, List.mem_cons_self .., by simp only; omega, by simp only; omega, by simp only; omega⟩
theorem arF_zero' (H : Int) : ∀ W, arF H (fun _ => 0) W = (W : Int) * H
 | 0 => by simp [arF]
 | k + 1 => by simp only [arF, arF_zero' H k]; rw [show ((k + 1 : Nat) : Int) = (k : Int) + 1 by omega, Int.add_mul, Int.one_mul]; omega
/-- a code that levels the empty floor lays a cut -/
theorem cut_of_sol {W H : Nat} {l : List Nat} (hW : 1 ≤ W) (hW2 : W ≤ 1000) (hH : 1 ≤ H) (hH2 : H ≤ 1000) (h : SolP W (H : Int) l (fun _ => 0)) : ∃ S, MkC S W H ∧ S.Pairwise (fun a b => ¬ ltS b a) ∧ szL S = l := by
 obtain ⟨S, g, e⟩ := lyT_sol hW l (fun _ => 0) (fun i _ => ⟨Int.le_refl _, show (0 : Int) ≤ (H : Int) by omega⟩) h
 obtain ⟨t, ht, q1, q2, q3⟩ := g.tp (W - 1) (by omega) (show (0 : Int) < (H : Int) by omega)
 refine ⟨S, ⟨List.length_pos_of_mem ht, hW, hH, hW2, hH2, g.rg, g.ap, by rw [g.ar, arF_zero'], ⟨t, ht, ?_⟩, ⟨t, ht, q3⟩⟩, g.so, e⟩
 have := (g.rg t ht).2.2.2.1
 omega
theorem layF_pre (W : Nat) : ∀ (l : List Nat) (F : Nat → Int) (out out' : List Sq) (F' : Nat → Int), layF W l F out = some (out', F') → ∃ Q, out' = out ++ Q
 | [], F, out, out', F', e => by
  simp only [layF, Option.some.injEq, Prod.mk.injEq] at e
  exact ⟨[], by rw [List.append_nil]; exact e.1.symm⟩
 | s :: l, F, out, out', F', e => by
  simp only [layF] at e
  by_cases hf : FitP W F s
  ·rw [if_pos hf] at e
   obtain ⟨Q, hq⟩ := layF_pre W l _ _ _ _ e
   exact ⟨_, by rw [hq, List.append_assoc]⟩
  ·rw [if_neg hf] at e; cases e
theorem sol_of_lay (W : Nat) (H : Int) : ∀ (l : List Nat) (F : Nat → Int) (out out' : List Sq) (F' : Nat → Int), layF W l F out = some (out', F') → (∀ q, q ∈ out' → 1 ≤ q.s ∧ q.y + (q.s : Int) ≤ H) → F' (loP W F') = H → SolP W H l F
 | [], F, out, out', F', e, _, hl => by
  simp only [layF, Option.some.injEq, Prod.mk.injEq] at e
  obtain ⟨rfl, rfl⟩ := e
  exact hl
 | s :: l, F, out, out', F', e, hq, hl => by
  simp only [layF] at e
  by_cases hf : FitP W F s
  ·rw [if_pos hf] at e
   obtain ⟨Q, hQ⟩ := layF_pre W l _ _ _ _ e
   have hm := hq ⟨minAt F (W - 1), F (minAt F (W - 1)), s⟩ (by rw [hQ]; simp)
   simp only at hm
   exact ⟨by unfold loP; omega, hm.1, hf.1, hf.2.1, hm.2, sol_of_lay W H l _ _ _ _ e hq hl⟩
  ·rw [if_neg hf] at e; cases e
theorem code_lays2 {S : List Tr} {W : Nat} (h : CutOK S) (hs : S.Pairwise (fun a b => ¬ ltS b a)) (hW : wdT S S.length = (W : Int)) : ∃ F, layF W (szL S) (fun _ => 0) [] = some (S.map trSq, F) ∧ ∀ x : Nat, x < W → F x = htT S S.length := by
 obtain ⟨F, h1, h2⟩ := lay_take h hs hW S.length (Nat.le_refl _)
 rw [List.take_length, show (szL S).take S.length = szL S by rw [← szL_len S, List.take_length]] at h1
 have hm := meas_bound h.rg S.length (Nat.le_refl _)
 refine ⟨F, h1, fun x hx => ?_⟩
 refine Int.le_antisymm ?_ ?_
 ·refine Int.not_lt.1 (fun q => ?_)
  obtain ⟨i, hi, hin⟩ := (h2.iff x hx _ hm.2.2.1).1 q
  have := htT_ge S S.length i hi
  unfold inT at hin
  omega
 ·refine Int.not_lt.1 (fun q => ?_)
  have hn := h2.nn x
  obtain ⟨i, hi, hin⟩ := h.covers (x := (x : Int)) (y := F x) (by omega) (by omega) hn q
  have := (h2.iff x hx _ hn).2 ⟨i, hi, hin⟩
  omega
/-- the code of a cut in order levels the empty floor -/
theorem sol_of_cut {S : List Tr} {W H : Nat} (h : MkC S W H) (hn : S.length ≤ 24) (hs : S.Pairwise (fun a b => ¬ ltS b a)) : SolP W (H : Int) (szL S) (fun _ => 0) := by
 obtain ⟨F, h1, h2⟩ := code_lays2 (h.cut hn) hs h.wd
 refine sol_of_lay W H _ _ _ _ F h1 (fun q hq => ?_) (by rw [h2 _ (loP_lt h.w1), h.ht])
 obtain ⟨t, ht, rfl⟩ := List.mem_map.1 hq
 have := h.rg t ht
 simp only [trSq]
 omega
theorem ord_of_cut {L : List Tr} {W H : Nat} (h : MkC L W H) : ∃ S, MkC S W H ∧ S.Pairwise (fun a b => ¬ ltS b a) ∧ S.length = L.length := by
 have hp := ordL_perm L L.length (Nat.le_refl _)
 rw [List.take_length] at hp
 exact ⟨_, h.perm hp, ordL_sorted L _, hp.length_eq.symm⟩
/-- sides exchanged -/
def swT (t : Tr) : Tr := ⟨t.b, t.a, t.c⟩
theorem sumC_sw : ∀ L, sumC (L.map swT) = sumC L
 | [] => rfl
 | t :: l => by simp only [List.map_cons, sumC, sumC_sw l, swT]
theorem MkC.swap {L : List Tr} {W H : Nat} (h : MkC L W H) : MkC (L.map swT) H W := by
 refine ⟨by rw [List.length_map]; exact h.pos, h.h1, h.w1, h.hb, h.wb, fun t ht => ?_, ?_, ?_, ?_, ?_⟩
 ·obtain ⟨u, hu, rfl⟩ := List.mem_map.1 ht
  obtain ⟨h1, h2, h3, h4, h5⟩ := h.rg u hu
  exact ⟨h2, h1, h3, h5, h4⟩
 ·rw [List.pairwise_map]
  refine h.ap.imp (fun e => ?_)
  unfold ApT at *
  simp only [swT]
  omega
 ·rw [sumC_sw, h.ar, Int.mul_comm]
 ·obtain ⟨t, ht, e⟩ := h.mh
  exact ⟨swT t, List.mem_map_of_mem ht, e⟩
 ·obtain ⟨t, ht, e⟩ := h.mw
  exact ⟨swT t, List.mem_map_of_mem ht, e⟩
theorem sol_swap {W H : Nat} {l : List Nat} (hW : 1 ≤ W) (hW2 : W ≤ 1000) (hH : 1 ≤ H) (hH2 : H ≤ 1000) (h : SolP W (H : Int) l (fun _ => 0)) (hl : l.length ≤ 24) : ∃ l2, SolP H (W : Int) l2 (fun _ => 0) ∧ l2.length = l.length := by
 obtain ⟨S, hm, _, he⟩ := cut_of_sol hW hW2 hH hH2 h
 have hlen : S.length = l.length := by rw [← he, szL_len]
 obtain ⟨T, hT, hs, hTl⟩ := ord_of_cut hm.swap
 rw [List.length_map] at hTl
 exact ⟨szL T, sol_of_cut hT (by omega) hs, by rw [szL_len, hTl, hlen]⟩
/-- Euclid's cut -/
theorem euc_cut : ∀ (n W H : Nat), W + H ≤ n → 1 ≤ W → W ≤ 1000 → 1 ≤ H → H ≤ 1000 → ∃ S, MkC S W H ∧ S.length = (euc (max W H) (min W H)).length
 | 0, W, H, hn, h1, _, _, _ => by omega
 | n + 1, W, H, hn, h1, h2, h3, h4 => by
  rcases Nat.lt_trichotomy W H with q | q | q
  ·obtain ⟨S, hm, hl⟩ := euc_cut n W (H - W) (by omega) h1 h2 (by omega) (by omega)
   have hm2 : MkC S (W * 1) (H - W) := by rw [Nat.mul_one]; exact hm
   have h5 := hm2.down h1 (Nat.le_refl 1) (by omega)
   rw [Nat.mul_one, show H - W + W = H by omega] at h5
   refine ⟨_, h5, ?_⟩
   rw [List.length_append, rowT_len, hl, show max W H = H by omega, show min W H = W by omega, euc_pos (by omega) h1, List.length_cons, show max (H - W) W = max W (H - W) by omega, show min (H - W) W = min W (H - W) by omega]
  ·subst q
   have h5 := MkC.one.scale (m := W) h1 (by omega) (by omega)
   rw [Nat.one_mul] at h5
   refine ⟨_, h5, ?_⟩
   rw [show max W W = W by omega, show min W W = W by omega, euc_pos (Nat.le_refl _) h1, show max (W - W) W = W by omega, show min (W - W) W = 0 by omega, euc_zero]
   rfl
  ·obtain ⟨S, hm, hl⟩ := euc_cut n (W - H) H (by omega) (by omega) (by omega) h3 h4
   have hm2 : MkC S (W - H) (H * 1) := by rw [Nat.mul_one]; exact hm
   have h5 := hm2.right h3 (Nat.le_refl 1) (by omega)
   rw [Nat.mul_one, show W - H + H = W by omega] at h5
   refine ⟨_, h5, ?_⟩
   rw [List.length_append, colT_len, hl, show max W H = W by omega, show min W H = H by omega, euc_pos (by omega) h3, List.length_cons]
theorem sol_euc {W H : Nat} (hW : 1 ≤ W) (hW2 : W ≤ 1000) (hH : 1 ≤ H) (hH2 : H ≤ 1000) (h24 : (euc (max W H) (min W H)).length ≤ 24) : ∃ l, SolP W (H : Int) l (fun _ => 0) ∧ l.length = (euc (max W H) (min W H)).length := by
 obtain ⟨S, hm, hl⟩ := euc_cut _ W H (Nat.le_refl _) hW hW2 hH hH2
 obtain ⟨T, hT, hs, hTl⟩ := ord_of_cut hm
 exact ⟨szL T, sol_of_cut hT (by omega) hs, by rw [szL_len, hTl, hl]⟩
/-- as many squares either way -/
theorem least_swap {W H m k : Nat} {l l2 : List Nat} (hW : 1 ≤ W) (hW2 : W ≤ 1000) (hH : 1 ≤ H) (hH2 : H ≤ 1000) (h : SolP W (H : Int) l (fun _ => 0)) (hl : l.length = m) (hn : NoLess W (H : Int) (fun _ => 0) m) (h' : SolP H (W : Int) l2 (fun _ => 0)) (hl' : l2.length = k) (hn' : NoLess H (W : Int) (fun _ => 0) k) (hm : m ≤ 24) (hk : k ≤ 24) : m = k := by
 obtain ⟨a, ha, ea⟩ := sol_swap hW hW2 hH hH2 h (by omega)
 obtain ⟨b, hb, eb⟩ := sol_swap hH hH2 hW hW2 h' (by omega)
 have := hn' a ha
 have := hn b hb
 omega
end Go.Proofs.YtolkchkedieppaaGreat
