/- Lay of package hide at sizes in range. -/
import Derived.Test.YtolkchkedieppaaGreatZLayB
import Derived.Deep.DeepCutAuto
import Derived.Deep.CutBlock
import Derived.Test.YtolkchkedieppaaGreatZLnA
import Derived.Deep.LoopGhost
import Derived.RegionTactic
import Derived.Test.YtolkchkedieppaaGreatZNetB
import Derived.Test.YtolkchkedieppaaGreatZCurA
import Derived.Deep.RegionHeld3
import Derived.Test.YtolkchkedieppaaGreatZRdB
import Derived.Test.YtolkchkedieppaaGreatZNetA
set_option linter.unusedVariables false
set_option linter.unusedSimpArgs false
namespace Go.Proofs.YtolkchkedieppaaGreat
open Go.RowKit
attribute [local go_sem ↓] Go.wp_at_zero Go.wp_at_succ
/-- squares as cells -/
def sqC (q : Sq) : List Value := [.int .i64 (q.x : Nat), .int .i64 q.y, .int .i64 (q.s : Nat)]
def sqL : List Sq → List Value
 | [] => []
 | q :: l => sqC q ++ sqL l
theorem sqL_app (a b : List Sq) : sqL (a ++ b) = sqL a ++ sqL b := by
 induction a with
 | nil => rfl
 | cons x a ih => simp [sqL, ih]
theorem infoS : (Tryz.prog.info? 47).map (fun i => (i.zero, i.size, i.bytes)) = some (some (.agg #[.int .i64 0, .int .i64 0, .int .i64 0]), 3, 24) := by kernel_rfl
theorem newS (w : World) (x : Sq) (t : TypeId) : ∀ j u, (sqC x)[j]? = some u → (w.alloc (.cells (sqC x).toArray t)).cell? ((⟨w.heap.size, 0, none⟩ : Addr).add j) = some u := fun j u hj => by
 have hadd : (⟨w.heap.size, 0, none⟩ : Addr).add j = ⟨w.heap.size, j, none⟩ := by unfold Addr.add; split <;> simp_all
 rw [hadd]
 simp [go_sem]
 exact hj
theorem oneS (x : Sq) : ∀ u ∈ sqC x, u.oneCell' = true := fun u hu => by
 simp [sqC] at hu
 rcases hu with rfl | rfl | rfl <;> rfl
theorem infoF : (Tryz.prog.info? 3).map (fun i => (i.zero, i.size, i.bytes)) = some (some (.int .i64 0), 1, 8) := by kernel_rfl
/-- what Lay keeps -/
structure LayM (w wr : World) (g W B : Nat) (F : Nat → Int) (vo : Value) (out : List Sq) : Prop where
 row : wr.rowIs g 3 W (ic F)
 out : wr.ownsRow B 47 3 vo out.length (sqL out)
 far : g < B
 lb : B ≤ wr.heap.size
 old : w.heap.size ≤ g
 below : Below w.heap.size w wr
section
variable {w wr : World} {g W B : Nat} {F : Nat → Int} {vo : Value} {out : List Sq}
theorem LayM.drawn {w' : World} (h : LayM w wr g W B F vo out) (hd : Drawn wr w') : LayM w w' g W B F vo out :=
 ⟨rowIs_below h.row (hd.below wr.heap.size) h.row.lt, own_kept h.out (hd.below _), h.far, Nat.le_trans h.lb (hd.below wr.heap.size).size, h.old, h.below.trans (hd.below _)⟩
theorem LayM.push {w5 : World} {v' : Value} {x : Sq} (h : LayM w wr g W B F vo out) (ob : Obj) (hgrow : (wr.alloc ob).grownBy w5 vo.ownBlock) (hown : w5.ownsRow B 47 3 v' (out.length + 1) (sqL out ++ sqC x)) :
  LayM w w5 g W B F v' (out ++ [x]) := by
 have hB : Below B wr w5 := ((Below.refl B wr).alloc h.lb ob).grown hgrow (by simp; have := h.lb; omega) (fun kk e => (h.out.lt kk e).1)
 refine ⟨rowIs_below h.row hB h.far, ?_, h.far, Nat.le_trans h.lb hB.size, h.old, h.below.trans (hB.mono (by have := h.old; have := h.far; omega))⟩
 rw [sqL_app, List.length_append]
 simp only [sqL, List.append_nil]
 exact hown
theorem LayM.put {w' : World} {F' : Nat → Int} (h : LayM w wr g W B F vo out) (hr : w'.rowIs g 3 W (ic F')) (hg : wr.grownBy w' (some g)) : LayM w w' g W B F' vo out := by
 refine ⟨hr, h.out.kept hg ?_, h.far, Nat.le_trans h.lb hg.size, h.old, h.below.trans ⟨hg.os, hg.tape, hg.output, hg.size, fun k hk => hg.block k (by have := h.below.size; omega) (fun e => by injection e with e; have := h.old; omega)⟩⟩
 rcases hv : vo.ownBlock with _ | k
 ·exact .inl rfl
 ·right
  intro e
  injection e with e
  have := (h.out.lt k hv).1
  have := h.far
  omega
end
theorem layF_take {W : Nat} {S : List Nat} {F0 : Nat → Int} {k : Nat} (h : k < S.length) {out : List Sq} {F : Nat → Int} (e : layF W (S.take k) F0 [] = some (out, F)) :
  layF W (S.take (k + 1)) F0 [] = if FitP W F (S.getD k 0) then some (out ++ [⟨minAt F (W - 1), F (minAt F (W - 1)), S.getD k 0⟩], putF F (minAt F (W - 1)) (S.getD k 0)) else none := by
 have e1 : S.take (k + 1) = S.take k ++ [S.getD k 0] := by rw [List.take_add_one]; simp [h]
 rw [e1, layF_app, e]
 rfl
theorem layF_none {W : Nat} {S : List Nat} {F0 : Nat → Int} : ∀ k, layF W (S.take k) F0 [] = none → layF W S F0 [] = none := fun k h => by
 have : ∀ (l m : List Nat) (F : Nat → Int) (out : List Sq), layF W l F out = none → layF W (l ++ m) F out = none := fun l => by
  induction l with
  | nil => intro m F out h; cases h
  | cons x l ih =>
   intro m F out h
   simp only [List.cons_append, layF] at h ⊢
   split
   ·rename_i q; rw [if_pos q] at h; exact ih m _ _ h
   ·rfl
 have h2 := this (S.take k) (S.drop k) F0 [] h
 rwa [List.take_append_drop] at h2
theorem getD_mem {S : List Nat} {k : Nat} (h : k < S.length) : S.getD k 0 ∈ S := by simp [h]
set_option maxHeartbeats 4000000 in
set_option maxRecDepth 100000 in
theorem lay_good (v : Value) (W : Nat) (S : List Nat) (w : World) (hv : Ints w v S.length (eF S)) (hW : 1 ≤ W) (hW2 : W ≤ 1000) (hS0 : 0 < S.length) (hS24 : S.length ≤ 24) (hS : ∀ s ∈ S, 1 ≤ s ∧ s ≤ 1000) :
  Calls Tryz.prog 15 #[.int .i64 (W : Nat), v] w fun e w' =>
   ((∃ out F, layF W S (fun _ => 0) [] = some (out, F) ∧ Lvl W F ∧ ∃ va vk, e = .returned (.tuple #[.slice va out.length vk, .int .i64 0]) ∧ w'.ownsRow w.heap.size 47 3 (.slice va out.length vk) out.length (sqL out)) ∨
    ((∀ out F, layF W S (fun _ => 0) [] = some (out, F) → ¬ Lvl W F) ∧ e = .returned (.tuple #[.slice none 0 0, .int .i64 5]))) ∧ Below w.heap.size w w' := by
 have HI := Lib.hid hv
 obtain ⟨sa, sb, so, sc, rfl, hs⟩ := hv
 have HS := Lib.hid hs
 have HSS := Lib.hid hS
 obtain ⟨i0, hinf, hz0, hz1, hz2⟩ := info_parts infoS
 have d1 : decide ((24 : Int) < ((S.length : Nat) : Int)) = false := by simp; omega
 have d1n : decide (24 < S.length) = false := by simp; omega
 have d2 : (((S.length : Nat) : Int) == 0) = false := by rw [beq_eq_false_iff_ne]; omega
 have d2n : (S.length == 0) = false := by rw [beq_eq_false_iff_ne]; omega
 have HNB : Hid ((false : Bool) = true ↔ ∃ i, i < S.length ∧ (eF S i < 1 ∨ 1000 < eF S i)) := Lib.hid ⟨fun q => Bool.noConfusion q, fun ⟨i, hi, q⟩ => by
  exfalso
  have := hS _ (getD_mem hi)
  unfold eF at q
  omega⟩
 have hmk := run_make_row' (P := Tryz.prog) 84 3 (.int .i64 0) 8 Tryz.underlying84 infoF rfl .i64 .i64 W (by omega) (by omega)
 clear hs hS
 go_enter Tryz.func15, Tryz.ntmps15
 go_wp2_with (first
  | (go_at_call 47; (with_reducible refine (lay_not _ _ (by omega)).mono ?_); rintro e w1 ⟨rfl, rfl⟩)
  | (go_at_call 48; (with_reducible refine (lay_cont _ S.length (eF S) false HNB.out _ HI.out (by omega)).mono ?_); rintro e w2 ⟨rfl, hd⟩; have HD := Lib.hid hd; clear hd))
 generalize hgw : w2.heap.size = g
 have hBW : w.heap.size ≤ g := by rw [← hgw]; exact (HD.out.below w.heap.size).size
 have L0 : Hid (LayM w (w2.alloc (.cells (madeCells #[.int .i64 0] W) 3)) g W (g + 1) (fun _ => 0) (.slice none 0 0) []) := Lib.hid (by
  rw [← hgw] at hBW ⊢
  exact ⟨World.rowIs_made w2 (.int .i64 0) W 3, World.ownsRow_nil _ _ _ _, by omega, by simp, hBW, (HD.out.below w.heap.size).alloc hBW _⟩)
 have LE0 : Hid (layF W (S.take 0) (fun _ => 0) [] = some ([], fun _ => 0)) := Lib.hid rfl
 have HS2 := Lib.hid (HS.out.drawn HD.out)
 go_loopw [8, 10, 11, 12, 35] (fun v8 v10 v11 v12 v35 wr => ∃ (k : Nat) (out : List Sq) (F : Nat → Int) (vo : Value), k ≤ S.length ∧ v35 = .int .i64 (k : Nat) ∧ vo = v8 ∧ Hid (out.length = k) ∧ Hid (layF W (S.take k) (fun _ => 0) [] = some (out, F)) ∧ Hid (∀ i, 0 ≤ F i ∧ F i ≤ 1000) ∧ Hid (LayM w wr g W (g + 1) F vo out)) (fun _ _ _ _ v35 _ => S.length - (intOf v35).toNat)
 case atStart => exact ⟨0, [], fun _ => 0, _, by omega, rfl, rfl, Lib.hid rfl, LE0, Lib.hid (fun _ => by simp), L0⟩
 case round =>
  clear L0 LE0 hmk
  obtain ⟨k, out, F, vo, hk, rfl, rfl, HOL, LE, FR, LM⟩ := hrel
  obtain ⟨va, vk, rfl⟩ := own_shape LM.out.out
  have hln : out.length ≤ 24 := by have := HOL.out; omega
  have HIF := Lib.hid (show Ints wr (.slice (some ⟨g, 0, none⟩) W W) W F from ⟨_, _, _, _, rfl, rowIs_sl LM.out.row⟩)
  by_cases h : k < S.length
  ·have e1 : decide ((k : Int) < ((S.length : Nat) : Int)) = true := by simpa using h
   have e1n : decide (k < S.length) = true := by simpa using h
   have hix := fun W' => ixI HS2.out k sc h W'
   have hc := (HS.out.mono LM.out.below (Nat.le_refl _)).cell k h
   simp only [ic, eF] at hc
   have hsr := HSS.out _ (getD_mem h)
   obtain ⟨s, hs⟩ : ∃ s, s = S.getD k 0 := ⟨_, rfl⟩
   rw [← hs] at hc hsr
   have HSK := Lib.hid hs
   clear hs
   go_upto_region 12 with (go_at_call 49; (with_reducible refine (fnext_any _ W F _ HIF.out hW hW2).mono ?_); rintro e w3 ⟨r, hrun, rfl, hd⟩; have HRUN := Lib.hid hrun; have LM := Lib.hid (LM.out.drawn hd); clear hrun hd)
   clear hix hc
   have hp := minAt_le F (W - 1)
   have hrl := HRUN.out.le
   have hfit := HRUN.out.fit (s := s)
   obtain ⟨p, hpe⟩ : ∃ p, p = minAt F (W - 1) := ⟨_, rfl⟩
   have hfr := FR.out p
   rw [← hpe] at hp hrl hfit ⊢
   have HPE := Lib.hid hpe
   have HFIT := Lib.hid hfit
   clear hfit hpe
   have hpW : p < W := by omega
   have ipx := fun W' => ixFl (rowIs_sl LM.out.row) p W hpW W'
   have cp := LM.out.row.cell (i := p) hpW
   simp only [ic, Nat.zero_add] at ipx cp
   have hwr : IntKind.i64.wrap (F p + (s : Int)) = F p + (s : Int) := by rw [IntKind.wrap_i64]; omega
   by_cases h1 : r < s
   ·have e2 : decide ((r : Int) < (s : Int)) = true := by simpa using h1
    have e2n : decide (r < s) = true := by simpa using h1
    have HNF : Hid (¬ FitP W F s) := Lib.hid (fun q => by have := (HFIT.out.1 q).1; omega)
    clear h1
    go_wp2_with fail
    go_ret2
    refine ⟨.inr ⟨fun o F' e' => ?_, rfl⟩, LM.out.below⟩
    have := layF_none (k + 1) (by rw [layF_take h LE.out, ← HSK.out, if_neg HNF.out])
    rw [this] at e'; cases e'
   ·have e2 : decide ((r : Int) < (s : Int)) = false := by simpa using h1
    have e2n : decide (r < s) = false := by simpa using h1
    by_cases h2 : 1000 < F p + (s : Int)
    ·have e3 : decide ((1000 : Int) < F p + (s : Int)) = true := by simpa using h2
     have HNF : Hid (¬ FitP W F s) := Lib.hid (fun q => by have := (HFIT.out.1 q).2; omega)
     clear h1 h2
     go_wp2_with fail
     go_ret2
     refine ⟨.inr ⟨fun o F' e' => ?_, rfl⟩, LM.out.below⟩
     have := layF_none (k + 1) (by rw [layF_take h LE.out, ← HSK.out, if_neg HNF.out])
     rw [this] at e'; cases e'
    ·have e3 : decide ((1000 : Int) < F p + (s : Int)) = false := by simpa using h2
     have HYF : Hid (FitP W F s) := Lib.hid (HFIT.out.2 ⟨by omega, by omega⟩)
     have hps : p + s ≤ W := by omega
     have HFB : Hid (∀ i, i < W → -1000 ≤ F i ∧ F i ≤ 1000) := Lib.hid (fun i _ => by have := FR.out i; omega)
     have LE2 : Hid (layF W (S.take (k + 1)) (fun _ => 0) [] = some (out ++ [⟨p, F p, s⟩], putF F p s)) := Lib.hid (by rw [layF_take h LE.out, ← HSK.out, if_pos HYF.out, ← HPE.out])
     have FR2 : Hid (∀ i, 0 ≤ putF F p s i ∧ putF F p s i ≤ 1000) := Lib.hid (layF_range W _ _ _ _ _ (fun i => by simp) LE2.out).1
     clear h1 h2
     have hlb := LM.out.lb
     go_wp2_with (first
      | (at_builtin; refine wpList_append_own_at _ rfl (.tmp 56) (.tmp 64) 23 rfl (g + 1) 47 i0 _ 3 24 Tryz.underlying23 hinf hz0 hz1 hz2 rfl (by decide) (.slice va out.length vk) out.length (sqL out) rfl (LM.out.out.alloc _) ⟨w3.heap.size, 0, none⟩ 1 1 (sqC ⟨p, F p, s⟩) rfl rfl (newS w3 ⟨p, F p, s⟩ _) (oneS ⟨p, F p, s⟩) (by unfold maxLen; omega) (by omega) (by simp; omega) ?_; intro v' w5 hown hgrow _ hbk; have LM := Lib.hid (LM.out.push (x := ⟨p, F p, s⟩) _ hgrow hown); obtain ⟨vb, vc, rfl⟩ := own_shape hown; clear hown hgrow hbk)
      | (go_at_call 50; (with_reducible refine (fput_any g W s p (s : Int) F _ LM.out.row hps hW2 HFB.out (by omega)).mono ?_); rintro e w6 ⟨rfl, hr, hgr⟩; have LM := Lib.hid (LM.out.put hr hgr); clear hr hgr))
     go_roundw
     case rel => exact ⟨k + 1, _, _, _, by omega, by go_num, rfl, Lib.hid (by simp; exact HOL.out), LE2, FR2, LM⟩
     case measure => simp [intOf]; omega
  ·have hke : k = S.length := by omega
   have e1 : decide ((k : Int) < ((S.length : Nat) : Int)) = false := by simp; omega
   have e1n : decide (k < S.length) = false := by simpa using h
   have LEE : Hid (layF W S (fun _ => 0) [] = some (out, F)) := Lib.hid (by have := LE.out; rw [hke, List.take_length] at this; exact this)
   have hlv := lvl_iff (F := F) hW
   clear hke h
   by_cases hl : Lvl W F
   ·have e2 : (F (minAt F (W - 1)) != maxTo F (W - 1)) = false := by have := hlv.2 hl; simpa using this
    have HLV := Lib.hid hl
    clear hl hlv
    go_wp2_with (first
     | (go_at_call 51; (with_reducible refine (fmin_any _ W F _ HIF.out hW hW2).mono ?_); rintro e w7 ⟨rfl, rfl⟩)
     | (go_at_call 52; (with_reducible refine (fmax_any _ W F _ HIF.out hW hW2).mono ?_); rintro e w7 ⟨rfl, rfl⟩))
    go_ret2
    exact ⟨.inl ⟨out, F, LEE.out, HLV.out, va, vk, rfl, own_base LM.out.out (by omega)⟩, LM.out.below⟩
   ·have e2 : (F (minAt F (W - 1)) != maxTo F (W - 1)) = true := by rw [bne_iff_ne]; exact fun e => hl (hlv.1 e)
    have HLV := Lib.hid hl
    clear hl hlv
    go_wp2_with (first
     | (go_at_call 51; (with_reducible refine (fmin_any _ W F _ HIF.out hW hW2).mono ?_); rintro e w7 ⟨rfl, rfl⟩)
     | (go_at_call 52; (with_reducible refine (fmax_any _ W F _ HIF.out hW hW2).mono ?_); rintro e w7 ⟨rfl, rfl⟩))
    go_ret2
    refine ⟨.inr ⟨fun o F' e' => ?_, rfl⟩, LM.out.below⟩
    rw [LEE.out] at e'
    injection e' with e'
    injection e' with e1' e2'
    rw [← e2']; exact HLV.out
end Go.Proofs.YtolkchkedieppaaGreat

/- Order of the reference: squares in order. (Printed by gen_ord.py.) -/
namespace Go.Proofs.YtolkchkedieppaaGreat
open Go.RowKit
attribute [local go_sem ↓] Go.wp_at_zero Go.wp_at_succ
instance (p q : Tr) : Decidable (ltS p q) := by unfold ltS; infer_instance
end Go.Proofs.YtolkchkedieppaaGreat

/- Code of package hide at a valid cut. -/
namespace Go.Proofs.YtolkchkedieppaaGreat
open Go.RowKit
attribute [local go_sem ↓] Go.wp_at_zero Go.wp_at_succ
/-- sides of the squares -/
def szF (S : List Tr) (i : Nat) : Int := (S.getD i default).c
set_option maxHeartbeats 4000000 in
set_option maxRecDepth 100000 in
theorem code_good (g0 c0 : Nat) (S : List Tr) (w : World) (hS : TrR w g0 0 S) (hg : g0 < w.heap.size) (hc : S.length ≤ c0) (hC : CutOK S) :
  Calls Tryz.prog 31 #[.slice (some ⟨g0, 0, none⟩) S.length c0] w fun e w' => ∃ va vk S' B, e = .returned (.tuple #[.slice va S.length vk, .int .i64 0]) ∧ S'.length = S.length ∧ S.Perm S' ∧ S'.Pairwise (fun a b => ¬ ltS b a) ∧
   w.heap.size ≤ B ∧ w'.ownsRow B 3 1 (.slice va S.length vk) S.length (ics (szF S') S.length) ∧ Below w.heap.size w w' := by
 obtain ⟨i0, hinf, hz0, hz1, hz2⟩ := info_parts infoI
 have hcon := read_good g0 c0 S w hS hg hc hC
 have hn24 := hC.few
 clear hS hg hc hC
 go_enter Tryz.func31, Tryz.ntmps31
 go_wp2_with (go_at_call 54; (with_reducible refine hcon.mono ?_); rintro e w1 ⟨bp, gc, cap, S', rfl, hl, hp, hs, h0, h1, h2, hr, hg, hb, hK⟩; have HL := Lib.hid hl; have HPM := Lib.hid hp; have HSO := Lib.hid hs; have HTR := Lib.hid hr; have KW := Lib.hid hK; clear hl hp hs hr hK)
 clear h1 h2 hcon
 have HRB := Lib.hid hg
 have OW0 : Hid (w1.ownsRow w1.heap.size 3 1 (.slice none 0 0) 0 (ics (szF S') 0)) := Lib.hid (World.ownsRow_nil _ _ _ _)
 have KW0 := Lib.hid (Below.refl w1.heap.size w1)
 have hb0 := hb
 have hg0 := hg
 have hls := HL.out
 go_loopw [6, 8, 22] (fun v6 v8 v22 wr => ∃ k : Nat, k ≤ S.length ∧ v22 = .int .i64 (k : Nat) ∧ ∃ va vk, v6 = .slice va k vk ∧ Hid (wr.ownsRow w1.heap.size 3 1 (.slice va k vk) k (ics (szF S') k)) ∧ Hid (Below w1.heap.size w1 wr)) (fun _ _ v22 _ => S.length - (intOf v22).toNat)
 case atStart => exact ⟨0, by omega, rfl, none, 0, rfl, OW0, KW0⟩
 case round =>
  clear KW0 OW0
  obtain ⟨k, hk, rfl, va, vk, rfl, OW, KB⟩ := hrel
  by_cases h : k < S.length
  ·have e1 : decide ((k : Int) < ((S.length : Nat) : Int)) = true := by simpa using h
   have e1n : decide (k < S.length) = true := by simpa using h
   have ix := fun W => ixSq gc S.length cap k h W
   have HR2 := Lib.hid (HTR.out.below KB.out hg0)
   have x0 := HR2.out.c0 k (by omega)
   have x1 := HR2.out.c1 k (by omega)
   have x2 := HR2.out.c2 k (by omega)
   simp only [Nat.zero_add] at x0 x1 x2
   obtain ⟨q, hq⟩ : ∃ q, q = S'.getD k default := ⟨_, rfl⟩
   rw [← hq] at x0 x1 x2
   have HQ : Hid (ics (szF S') k ++ [.int .i64 q.c] = ics (szF S') (k + 1)) := Lib.hid (by rw [← ics_succ, hq]; rfl)
   clear hq
   go_upto_region 8 with (fail)
   have KB := Lib.hid (KB.out.alloc KB.out.size (.cells #[.int .i64 q.a, .int .i64 q.b, .int .i64 q.c] 47))
   have OW := Lib.hid (OW.out.alloc (.cells #[.int .i64 q.a, .int .i64 q.b, .int .i64 q.c] 47))
   have y2 : (wr.alloc (.cells #[.int .i64 q.a, .int .i64 q.b, .int .i64 q.c] 47)).cell? ⟨wr.heap.size, 2, none⟩ = some (.int .i64 q.c) := by simp [go_sem]
   generalize wr.alloc (.cells #[.int .i64 q.a, .int .i64 q.b, .int .i64 q.c] 47) = w2 at KB OW y2 ⊢
   obtain ⟨sb, hsb⟩ : ∃ sb, sb = wr.heap.size := ⟨_, rfl⟩
   rw [← hsb] at y2 ⊢
   clear hsb x0 x1 x2 ix HR2
   have HSZ := Lib.hid KB.out.size
   have HBK := Lib.hid OW.out.lt
   have HSW := Lib.hid KW.out.size
   go_wp2_with (at_builtin; refine wpList_append_own _ rfl (.tmp 26) (.tmp 29) 22 rfl w1.heap.size 3 i0 (.int .i64 0) 1 8 Tryz.underlying22 hinf hz0 hz1 hz2 rfl (by decide) (.slice va k vk) k (ics (szF S') k) rfl (OW.out.alloc _) ⟨w2.heap.size, 0, none⟩ 1 1 [.int .i64 q.c] rfl rfl (new1 w2 (.int .i64 q.c) 3) (one1 _ rfl) (by unfold maxLen; omega) (by omega) (by simp; have := HSZ.out; have := HSW.out; omega) ?_; intro v' w5 hown hgrow _; rw [HQ.out] at hown; obtain ⟨va', vk', rfl⟩ := own_shape hown; have OW := Lib.hid hown; have KB := Lib.hid ((KB.out.alloc KB.out.size _).grown hgrow (by have := HSZ.out; simp; omega) (fun kk e => (HBK.out kk e).1)); clear hown hgrow)
   go_roundw
   case rel => exact ⟨k + 1, by omega, by go_num, va', vk', rfl, OW, KB⟩
   case measure => simp [intOf]; omega
  ·obtain rfl : k = S.length := by omega
   have e1 : decide (((S.length : Nat) : Int) < ((S.length : Nat) : Int)) = false := by simp
   go_wp2
   go_ret2
   exact ⟨va, vk, S', w1.heap.size, rfl, hls, HPM.out, HSO.out, KW.out.size, OW.out, KW.out.trans (KB.out.mono KW.out.size)⟩
end Go.Proofs.YtolkchkedieppaaGreat

/- lines in canonical form; plain law. -/
namespace Go.Proofs.YtolkchkedieppaaGreat
open Go.RowKit
/-- one line (y, from, to) before another, not touching -/
def SepL (p q : Tr) : Prop := p.a < q.a ∨ (p.a = q.a ∧ p.c < q.b)
/-- lines apart, in order, that cover these cells -/
structure CanL (A : List Tr) (cov : Int → Int → Prop) : Prop where
 sep : A.Pairwise SepL
 ne : ∀ l, l ∈ A → l.b < l.c
 cells : ∀ y x, (∃ l, l ∈ A ∧ l.a = y ∧ l.b ≤ x ∧ x < l.c) ↔ cov y x
end Go.Proofs.YtolkchkedieppaaGreat

/- lines joined (program) and swallowed (reference); plain law. -/
namespace Go.Proofs.YtolkchkedieppaaGreat
open Go.RowKit
/-- the cells of the edges of squares -/
def edgeC (S : List Tr) (y x : Int) : Prop := ∃ t, t ∈ S ∧ (t.b = y ∨ t.b + t.c = y) ∧ t.a ≤ x ∧ x < t.a + t.c
/-- whether a line comes before another one -/
def ltY (p q : Tr) : Prop := p.a < q.a ∨ (p.a = q.a ∧ p.b < q.b)
instance (p q : Tr) : Decidable (ltY p q) := by unfold ltY; infer_instance
end Go.Proofs.YtolkchkedieppaaGreat

/- ref.SameRow of equal lists of texts. -/
namespace Go.Proofs.YtolkchkedieppaaGreat
open Go.RowKit
attribute [local go_sem ↓] Go.wp_at_zero Go.wp_at_succ
set_option maxHeartbeats 2000000 in
set_option maxRecDepth 100000 in
theorem sameRow_eq (v1 v2 : Value) (n : Nat) (f : Nat → ByteArray) (w : World) (h1 : Sl w v1 n (fun j => .string (f j))) (h2 : Sl w v2 n (fun j => .string (f j))) (hn : n ≤ 1048576) :
  Calls Tryz.prog 53 #[v1, v2] w fun e w' => e = .returned (.bool true) ∧ Drawn w w' := by
 obtain ⟨a1, b1, o1, c1, rfl, s1⟩ := h1
 obtain ⟨a2, b2, o2, c2, rfl, s2⟩ := h2
 have S1 := Lib.hid s1
 have S2 := Lib.hid s2
 clear s1 s2
 have d0 : ((n : Int) != (n : Int)) = false := by simp
 go_enter Tryz.func53, Tryz.ntmps53
 go_wp2
 go_loopw [5] (fun v5 wr => ∃ k : Nat, k ≤ n ∧ v5 = .int .i64 (k : Nat) ∧ Hid (Drawn w wr)) (fun v5 _ => n - (intOf v5).toNat)
 case atStart => exact ⟨0, by omega, rfl, Lib.hid (Drawn.refl _)⟩
 case round =>
  obtain ⟨k, hk, rfl, hd⟩ := hrel
  by_cases h : k < n
  ·have d1 : decide ((k : Int) < (n : Int)) = true := by simpa using h
   have g1 : (0 : Int) ≤ (k : Int) := Int.natCast_nonneg k
   have g2 : (k : Int) < (n : Int) := by omega
   obtain rfl := S1.out.at_ (by omega)
   obtain rfl := S2.out.at_ (by omega)
   have x1 := (S1.out.drawn hd.out).cell k h
   have x2 := (S2.out.drawn hd.out).cell k h
   go_wp2
   go_quiet (fail)
   go_wp2
   go_roundw
   case rel => exact ⟨k + 1, by omega, by go_num, Lib.hid (hd.out.trans (Drawn.of _ _))⟩
   case measure => simp [intOf]; omega
  ·obtain rfl : k = n := by omega
   have d1 : decide ((k : Int) < (k : Int)) = false := by simp
   go_wp2
   go_ret
   exact ⟨rfl, hd.out⟩
end Go.Proofs.YtolkchkedieppaaGreat
