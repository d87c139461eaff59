/- Lay of package hide at sizes in range. -/
import Derived.Test.YtolkchkedieppaaGreatVLayB
import Derived.Deep.DeepCutAuto
import Derived.Deep.CutBlock
import Derived.Test.YtolkchkedieppaaGreatVLnA
import Derived.Test.YtolkchkedieppaaGreatVRdA
import Derived.Deep.LoopGhost
set_option linter.unusedVariables false
set_option linter.unusedSimpArgs false
namespace Go.Proofs.YtolkchkedieppaaGreat
open Go.RowKit
attribute [local go_sem ↓] Go.wp_at_zero Go.wp_at_succ
/-- squares as cells -/
def sqC (q : Sq) : List Value := [.int .i64 (q.x : Nat), .int .i64 q.y, .int .i64 (q.s : Nat)]
def sqL : List Sq → List Value
 | [] => []
 | q :: l => sqC q ++ sqL l
theorem sqL_app (a b : List Sq) : sqL (a ++ b) = sqL a ++ sqL b := by
 induction a with
 | nil => rfl
 | cons x a ih => simp [sqL, ih]
theorem infoS : (Tryz.prog.info? 47).map (fun i => (i.zero, i.size, i.bytes)) = some (some (.agg #[.int .i64 0, .int .i64 0, .int .i64 0]), 3, 24) := by kernel_rfl
theorem newS (w : World) (x : Sq) (t : TypeId) : ∀ j u, (sqC x)[j]? = some u → (w.alloc (.cells (sqC x).toArray t)).cell? ((⟨w.heap.size, 0, none⟩ : Addr).add j) = some u := fun j u hj => by
 have hadd : (⟨w.heap.size, 0, none⟩ : Addr).add j = ⟨w.heap.size, j, none⟩ := by unfold Addr.add; split <;> simp_all
 rw [hadd]
 simp [go_sem]
 exact hj
theorem oneS (x : Sq) : ∀ u ∈ sqC x, u.oneCell' = true := fun u hu => by
 simp [sqC] at hu
 rcases hu with rfl | rfl | rfl <;> rfl
theorem infoF : (Tryz.prog.info? 3).map (fun i => (i.zero, i.size, i.bytes)) = some (some (.int .i64 0), 1, 8) := by kernel_rfl
/-- what Lay keeps -/
structure LayM (w wr : World) (g W B : Nat) (F : Nat → Int) (vo : Value) (out : List Sq) : Prop where
 row : wr.rowIs g 3 W (ic F)
 out : wr.ownsRow B 47 3 vo out.length (sqL out)
 far : g < B
 lb : B ≤ wr.heap.size
 old : w.heap.size ≤ g
 below : Below w.heap.size w wr
section
variable {w wr : World} {g W B : Nat} {F : Nat → Int} {vo : Value} {out : List Sq}
theorem LayM.drawn {w' : World} (h : LayM w wr g W B F vo out) (hd : Drawn wr w') : LayM w w' g W B F vo out :=
 ⟨rowIs_below h.row (hd.below wr.heap.size) h.row.lt, own_kept h.out (hd.below _), h.far, Nat.le_trans h.lb (hd.below wr.heap.size).size, h.old, h.below.trans (hd.below _)⟩
theorem LayM.push {w5 : World} {v' : Value} {x : Sq} (h : LayM w wr g W B F vo out) (ob : Obj) (hgrow : (wr.alloc ob).grownBy w5 vo.ownBlock) (hown : w5.ownsRow B 47 3 v' (out.length + 1) (sqL out ++ sqC x)) :
  LayM w w5 g W B F v' (out ++ [x]) := by
 have hB : Below B wr w5 := ((Below.refl B wr).alloc h.lb ob).grown hgrow (by simp; have := h.lb; omega) (fun kk e => (h.out.lt kk e).1)
 refine ⟨rowIs_below h.row hB h.far, ?_, h.far, Nat.le_trans h.lb hB.size, h.old, h.below.trans (hB.mono (by have := h.old; have := h.far; omega))⟩
 rw [sqL_app, List.length_append]
 simp only [sqL, List.append_nil]
 exact hown
theorem LayM.put {w' : World} {F' : Nat → Int} (h : LayM w wr g W B F vo out) (hr : w'.rowIs g 3 W (ic F')) (hg : wr.grownBy w' (some g)) : LayM w w' g W B F' vo out := by
 refine ⟨hr, h.out.kept hg ?_, h.far, Nat.le_trans h.lb hg.size, h.old, h.below.trans ⟨hg.os, hg.tape, hg.output, hg.size, fun k hk => hg.block k (by have := h.below.size; omega) (fun e => by injection e with e; have := h.old; omega)⟩⟩
 rcases hv : vo.ownBlock with _ | k
 ·exact .inl rfl
 ·right
  intro e
  injection e with e
  have := (h.out.lt k hv).1
  have := h.far
  omega
end
theorem layF_take {W : Nat} {S : List Nat} {F0 : Nat → Int} {k : Nat} (h : k < S.length) {out : List Sq} {F : Nat → Int} (e : layF W (S.take k) F0 [] = some (out, F)) :
  layF W (S.take (k + 1)) F0 [] = if FitP W F (S.getD k 0) then some (out ++ [⟨minAt F (W - 1), F (minAt F (W - 1)), S.getD k 0⟩], putF F (minAt F (W - 1)) (S.getD k 0)) else none := by
 have e1 : S.take (k + 1) = S.take k ++ [S.getD k 0] := by rw [List.take_add_one]; simp [h]
 rw [e1, layF_app, e]
 rfl
theorem layF_none {W : Nat} {S : List Nat} {F0 : Nat → Int} : ∀ k, layF W (S.take k) F0 [] = none → layF W S F0 [] = none := fun k h => by
 have : ∀ (l m : List Nat) (F : Nat → Int) (out : List Sq), layF W l F out = none → layF W (l ++ m) F out = none := fun l => by
  induction l with
  | nil => intro m F out h; cases h
  | cons x l ih =>
   intro m F out h
   simp only [List.cons_append, layF] at h ⊢
   split
   ·rename_i q; rw [if_pos q] at h; exact ih m _ _ h
   ·rfl
 have h2 := this (S.take k) (S.drop k) F0 [] h
 rwa [List.take_append_drop] at h2
theorem getD_mem {S : List Nat} {k : Nat} (h : k < S.length) : S.getD k 0 ∈ S := by simp [h]
set_option maxHeartbeats 4000000 in
set_option maxRecDepth 100000 in
theorem lay_good (v : Value) (W : Nat) (S : List Nat) (w : World) (hv : Ints w v S.length (eF S)) (hW : 1 ≤ W) (hW2 : W ≤ 1000) (hS0 : 0 < S.length) (hS24 : S.length ≤ 24) (hS : ∀ s ∈ S, 1 ≤ s ∧ s ≤ 1000) :
  Calls Tryz.prog 15 #[.int .i64 (W : Nat), v] w fun e w' =>
   ((∃ out F, layF W S (fun _ => 0) [] = some (out, F) ∧ Lvl W F ∧ ∃ va vk, e = .returned (.tuple #[.slice va out.length vk, .int .i64 0]) ∧ w'.ownsRow w.heap.size 47 3 (.slice va out.length vk) out.length (sqL out)) ∨
    ((∀ out F, layF W S (fun _ => 0) [] = some (out, F) → ¬ Lvl W F) ∧ e = .returned (.tuple #[.slice none 0 0, .int .i64 5]))) ∧ Below w.heap.size w w' := by
 have HI := Lib.hid hv
 obtain ⟨sa, sb, so, sc, rfl, hs⟩ := hv
 have HS := Lib.hid hs
 have HSS := Lib.hid hS
 obtain ⟨i0, hinf, hz0, hz1, hz2⟩ := info_parts infoS
 have d1 : decide ((24 : Int) < ((S.length : Nat) : Int)) = false := by simp; omega
 have d1n : decide (24 < S.length) = false := by simp; omega
 have d2 : (((S.length : Nat) : Int) == 0) = false := by rw [beq_eq_false_iff_ne]; omega
 have d2n : (S.length == 0) = false := by rw [beq_eq_false_iff_ne]; omega
 have HNB : Hid ((false : Bool) = true ↔ ∃ i, i < S.length ∧ (eF S i < 1 ∨ 1000 < eF S i)) := Lib.hid ⟨fun q => Bool.noConfusion q, fun ⟨i, hi, q⟩ => by
  exfalso
  have := hS _ (getD_mem hi)
  unfold eF at q
  omega⟩
 have hmk := run_make_row' (P := Tryz.prog) 84 3 (.int .i64 0) 8 Tryz.underlying84 infoF rfl .i64 .i64 W (by omega) (by omega)
 clear hs hS
 go_enter Tryz.func15, Tryz.ntmps15
 go_wp2_with (first
  | (go_at_call 47; (with_reducible refine (lay_not _ _ (by omega)).mono ?_); rintro e w1 ⟨rfl, rfl⟩)
  | (go_at_call 48; (with_reducible refine (lay_cont _ S.length (eF S) false HNB.out _ HI.out (by omega)).mono ?_); rintro e w2 ⟨rfl, hd⟩; have HD := Lib.hid hd; clear hd))
 generalize hgw : w2.heap.size = g
 have hBW : w.heap.size ≤ g := by rw [← hgw]; exact (HD.out.below w.heap.size).size
 have L0 : Hid (LayM w (w2.alloc (.cells (madeCells #[.int .i64 0] W) 3)) g W (g + 1) (fun _ => 0) (.slice none 0 0) []) := Lib.hid (by
  rw [← hgw] at hBW ⊢
  exact ⟨World.rowIs_made w2 (.int .i64 0) W 3, World.ownsRow_nil _ _ _ _, by omega, by simp, hBW, (HD.out.below w.heap.size).alloc hBW _⟩)
 have LE0 : Hid (layF W (S.take 0) (fun _ => 0) [] = some ([], fun _ => 0)) := Lib.hid rfl
 have HS2 := Lib.hid (HS.out.drawn HD.out)
 go_loopw [8, 10, 11, 12, 35] (fun v8 v10 v11 v12 v35 wr => ∃ (k : Nat) (out : List Sq) (F : Nat → Int) (vo : Value), k ≤ S.length ∧ v35 = .int .i64 (k : Nat) ∧ vo = v8 ∧ Hid (out.length = k) ∧ Hid (layF W (S.take k) (fun _ => 0) [] = some (out, F)) ∧ Hid (∀ i, 0 ≤ F i ∧ F i ≤ 1000) ∧ Hid (LayM w wr g W (g + 1) F vo out)) (fun _ _ _ _ v35 _ => S.length - (intOf v35).toNat)
 case atStart => exact ⟨0, [], fun _ => 0, _, by omega, rfl, rfl, Lib.hid rfl, LE0, Lib.hid (fun _ => by simp), L0⟩
 case round =>
  clear L0 LE0 hmk
  obtain ⟨k, out, F, vo, hk, rfl, rfl, HOL, LE, FR, LM⟩ := hrel
  obtain ⟨va, vk, rfl⟩ := own_shape LM.out.out
  have hln : out.length ≤ 24 := by have := HOL.out; omega
  have HIF := Lib.hid (show Ints wr (.slice (some ⟨g, 0, none⟩) W W) W F from ⟨_, _, _, _, rfl, rowIs_sl LM.out.row⟩)
  by_cases h : k < S.length
  ·have e1 : decide ((k : Int) < ((S.length : Nat) : Int)) = true := by simpa using h
   have e1n : decide (k < S.length) = true := by simpa using h
   have hix := fun W' => ixI HS2.out k sc h W'
   have hc := (HS.out.mono LM.out.below (Nat.le_refl _)).cell k h
   simp only [ic, eF] at hc
   have hsr := HSS.out _ (getD_mem h)
   obtain ⟨s, hs⟩ : ∃ s, s = S.getD k 0 := ⟨_, rfl⟩
   rw [← hs] at hc hsr
   have HSK := Lib.hid hs
   clear hs
   go_upto_region 12 with (go_at_call 49; (with_reducible refine (fnext_any _ W F _ HIF.out hW hW2).mono ?_); rintro e w3 ⟨r, hrun, rfl, hd⟩; have HRUN := Lib.hid hrun; have LM := Lib.hid (LM.out.drawn hd); clear hrun hd)
   clear hix hc
   have hp := minAt_le F (W - 1)
   have hrl := HRUN.out.le
   have hfit := HRUN.out.fit (s := s)
   obtain ⟨p, hpe⟩ : ∃ p, p = minAt F (W - 1) := ⟨_, rfl⟩
   have hfr := FR.out p
   rw [← hpe] at hp hrl hfit ⊢
   have HPE := Lib.hid hpe
   have HFIT := Lib.hid hfit
   clear hfit hpe
   have hpW : p < W := by omega
   have ipx := fun W' => ixFl (rowIs_sl LM.out.row) p W hpW W'
   have cp := LM.out.row.cell (i := p) hpW
   simp only [ic, Nat.zero_add] at ipx cp
   have hwr : IntKind.i64.wrap (F p + (s : Int)) = F p + (s : Int) := by rw [IntKind.wrap_i64]; omega
   by_cases h1 : r < s
   ·have e2 : decide ((r : Int) < (s : Int)) = true := by simpa using h1
    have e2n : decide (r < s) = true := by simpa using h1
    have HNF : Hid (¬ FitP W F s) := Lib.hid (fun q => by have := (HFIT.out.1 q).1; omega)
    clear h1
    go_wp2_with fail
    go_ret2
    refine ⟨.inr ⟨fun o F' e' => ?_, rfl⟩, LM.out.below⟩
    have := layF_none (k + 1) (by rw [layF_take h LE.out, ← HSK.out, if_neg HNF.out])
    rw [this] at e'; cases e'
   ·have e2 : decide ((r : Int) < (s : Int)) = false := by simpa using h1
    have e2n : decide (r < s) = false := by simpa using h1
    by_cases h2 : 1000 < F p + (s : Int)
    ·have e3 : decide ((1000 : Int) < F p + (s : Int)) = true := by simpa using h2
     have HNF : Hid (¬ FitP W F s) := Lib.hid (fun q => by have := (HFIT.out.1 q).2; omega)
     clear h1 h2
     go_wp2_with fail
     go_ret2
     refine ⟨.inr ⟨fun o F' e' => ?_, rfl⟩, LM.out.below⟩
     have := layF_none (k + 1) (by rw [layF_take h LE.out, ← HSK.out, if_neg HNF.out])
     rw [this] at e'; cases e'
    ·have e3 : decide ((1000 : Int) < F p + (s : Int)) = false := by simpa using h2
     have HYF : Hid (FitP W F s) := Lib.hid (HFIT.out.2 ⟨by omega, by omega⟩)
     have hps : p + s ≤ W := by omega
     have HFB : Hid (∀ i, i < W → -1000 ≤ F i ∧ F i ≤ 1000) := Lib.hid (fun i _ => by have := FR.out i; omega)
     have LE2 : Hid (layF W (S.take (k + 1)) (fun _ => 0) [] = some (out ++ [⟨p, F p, s⟩], putF F p s)) := Lib.hid (by rw [layF_take h LE.out, ← HSK.out, if_pos HYF.out, ← HPE.out])
     have FR2 : Hid (∀ i, 0 ≤ putF F p s i ∧ putF F p s i ≤ 1000) := Lib.hid (layF_range W _ _ _ _ _ (fun i => by simp) LE2.out).1
     clear h1 h2
     have hlb := LM.out.lb
     go_wp2_with (first
      | (at_builtin; refine wpList_append_own_at _ rfl (.tmp 56) (.tmp 64) 23 rfl (g + 1) 47 i0 _ 3 24 Tryz.underlying23 hinf hz0 hz1 hz2 rfl (by decide) (.slice va out.length vk) out.length (sqL out) rfl (LM.out.out.alloc _) ⟨w3.heap.size, 0, none⟩ 1 1 (sqC ⟨p, F p, s⟩) rfl rfl (newS w3 ⟨p, F p, s⟩ _) (oneS ⟨p, F p, s⟩) (by unfold maxLen; omega) (by omega) (by simp; omega) ?_; intro v' w5 hown hgrow _ hbk; have LM := Lib.hid (LM.out.push (x := ⟨p, F p, s⟩) _ hgrow hown); obtain ⟨vb, vc, rfl⟩ := own_shape hown; clear hown hgrow hbk)
      | (go_at_call 50; (with_reducible refine (fput_any g W s p (s : Int) F _ LM.out.row hps hW2 HFB.out (by omega)).mono ?_); rintro e w6 ⟨rfl, hr, hgr⟩; have LM := Lib.hid (LM.out.put hr hgr); clear hr hgr))
     go_roundw
     case rel => exact ⟨k + 1, _, _, _, by omega, by go_num, rfl, Lib.hid (by simp; exact HOL.out), LE2, FR2, LM⟩
     case measure => simp [intOf]; omega
  ·have hke : k = S.length := by omega
   have e1 : decide ((k : Int) < ((S.length : Nat) : Int)) = false := by simp; omega
   have e1n : decide (k < S.length) = false := by simpa using h
   have LEE : Hid (layF W S (fun _ => 0) [] = some (out, F)) := Lib.hid (by have := LE.out; rw [hke, List.take_length] at this; exact this)
   have hlv := lvl_iff (F := F) hW
   clear hke h
   by_cases hl : Lvl W F
   ·have e2 : (F (minAt F (W - 1)) != maxTo F (W - 1)) = false := by have := hlv.2 hl; simpa using this
    have HLV := Lib.hid hl
    clear hl hlv
    go_wp2_with (first
     | (go_at_call 51; (with_reducible refine (fmin_any _ W F _ HIF.out hW hW2).mono ?_); rintro e w7 ⟨rfl, rfl⟩)
     | (go_at_call 52; (with_reducible refine (fmax_any _ W F _ HIF.out hW hW2).mono ?_); rintro e w7 ⟨rfl, rfl⟩))
    go_ret2
    exact ⟨.inl ⟨out, F, LEE.out, HLV.out, va, vk, rfl, own_base LM.out.out (by omega)⟩, LM.out.below⟩
   ·have e2 : (F (minAt F (W - 1)) != maxTo F (W - 1)) = true := by rw [bne_iff_ne]; exact fun e => hl (hlv.1 e)
    have HLV := Lib.hid hl
    clear hl hlv
    go_wp2_with (first
     | (go_at_call 51; (with_reducible refine (fmin_any _ W F _ HIF.out hW hW2).mono ?_); rintro e w7 ⟨rfl, rfl⟩)
     | (go_at_call 52; (with_reducible refine (fmax_any _ W F _ HIF.out hW hW2).mono ?_); rintro e w7 ⟨rfl, rfl⟩))
    go_ret2
    refine ⟨.inr ⟨fun o F' e' => ?_, rfl⟩, LM.out.below⟩
    rw [LEE.out] at e'
    injection e' with e'
    injection e' with e1' e2'
    rw [← e2']; exact HLV.out
end Go.Proofs.YtolkchkedieppaaGreat

/- Lay of the width and the code of a cut is that cut, in order: plainly (H1). -/
namespace Go.Proofs.YtolkchkedieppaaGreat
def trSq (q : Tr) : Sq := ⟨q.a.toNat, q.b, q.c.toNat⟩
def szL (S : List Tr) : List Nat := S.map (fun q => q.c.toNat)
theorem szL_len (S : List Tr) : (szL S).length = S.length := by simp [szL]
theorem szL_get {S : List Tr} {k : Nat} (h : k < S.length) : (szL S).getD k 0 = (S.getD k default).c.toNat := by simp [szL, h]
theorem take_succ_getD {S : List Tr} {k : Nat} (h : k < S.length) : S.take (k + 1) = S.take k ++ [S.getD k default] := by
 rw [List.take_add_one]; simp [h]
theorem pair_getD {S : List Tr} (hs : S.Pairwise (fun a b => ¬ ltS b a)) {i j : Nat} (hij : i < j) (hj : j < S.length) : ¬ ltS (S.getD j default) (S.getD i default) := by
 have := List.pairwise_iff_getElem.1 hs i j (by omega) hj hij
 simpa [hj, Nat.lt_trans hij hj] using this
/-- the floor is what the first k squares cover -/
structure Stair (S : List Tr) (W k : Nat) (F : Nat → Int) : Prop where
 nn : ∀ x, 0 ≤ F x
 iff : ∀ x : Nat, x < W → ∀ y : Int, 0 ≤ y → (y < F x ↔ ∃ i, i < k ∧ inT (S.getD i default) (x : Int) y)
section
variable {S : List Tr} {W k : Nat} {F : Nat → Int}
theorem CutOK.apne (h : CutOK S) {i j : Nat} (hi : i < S.length) (hj : j < S.length) (hne : i ≠ j) {x y : Int} (h1 : inT (S.getD i default) x y) (h2 : inT (S.getD j default) x y) : False := by
 rcases Nat.lt_or_gt_of_ne hne with e | e
 ·exact apT_in (h.ap j i e hj) h2 h1
 ·exact apT_in (h.ap i j e hi) h1 h2
/-- what a later square covers lies at or below the floor -/
theorem Stair.later (hst : Stair S W k F) (h : CutOK S) {j : Nat} (hj : j < S.length) (hk : k ≤ j) {x : Nat} (hx : x < W) {y : Int} (hy : 0 ≤ y) (hin : inT (S.getD j default) (x : Int) y) : F x ≤ y := by
 refine Int.not_lt.1 (fun q => ?_)
 obtain ⟨i, hi, h1⟩ := (hst.iff x hx y hy).1 q
 exact h.apne (show i < S.length by omega) hj (by omega) h1 hin
theorem stair_next (h : CutOK S) (hs : S.Pairwise (fun a b => ¬ ltS b a)) (hW : wdT S S.length = (W : Int)) (hst : Stair S W k F) (hk : k < S.length) :
  FitP W F (S.getD k default).c.toNat ∧ minAt F (W - 1) = (S.getD k default).a.toNat ∧ F (minAt F (W - 1)) = (S.getD k default).b ∧ Stair S W (k + 1) (putF F (minAt F (W - 1)) (S.getD k default).c.toNat) := by
 have hr := h.rg k hk
 have hqw := wdT_ge S S.length k hk
 have hqh := htT_ge S S.length k hk
 obtain ⟨q, hq⟩ : ∃ q, q = S.getD k default := ⟨_, rfl⟩
 rw [← hq] at hr hqw hqh ⊢
 obtain ⟨A, hA⟩ := Int.eq_ofNat_of_zero_le hr.a0
 obtain ⟨B, hB⟩ := Int.eq_ofNat_of_zero_le hr.b0
 obtain ⟨C, hC⟩ := Int.eq_ofNat_of_zero_le (show 0 ≤ q.c by have := hr.c0; omega)
 have hC1 : 1 ≤ C := by have := hr.c0; omega
 have hAW : A + C ≤ W := by omega
 have hp := minAt_le F (W - 1)
 have hmin := minAt_min F (W - 1)
 have hfst := minAt_first F (W - 1)
 obtain ⟨p, hpe⟩ : ∃ p, p = minAt F (W - 1) := ⟨_, rfl⟩
 rw [← hpe] at hp hmin hfst ⊢
 have hpW : p < W := by omega
 have hnn := hst.nn p
 have inq : ∀ {x : Nat} {y : Int}, A ≤ x → x < A + C → (B : Int) ≤ y → y < (B : Int) + C → inT (S.getD k default) (x : Int) y := fun h1 h2 h3 h4 => by
  rw [← hq]; unfold inT; omega
 have f1 : F A ≤ (B : Int) := hst.later h hk (Nat.le_refl _) (by omega) (by omega) (inq (Nat.le_refl _) (by omega) (by omega) (by omega))
 have f2 := hmin A (by omega)
 obtain ⟨j, hj, hin⟩ := h.covers (x := (p : Int)) (y := F p) (by omega) (by omega) hnn (by omega)
 have hjk : k ≤ j := by
  refine Nat.le_of_not_lt (fun e => ?_)
  have := (hst.iff p hpW (F p) hnn).2 ⟨j, e, hin⟩
  omega
 have hrj := h.rg j hj
 have hjw := wdT_ge S S.length j hj
 have hso : ¬ ltS (S.getD j default) (S.getD k default) := by
  rcases Nat.lt_or_ge k j with e | e
  ·exact pair_getD hs e hj
  ·obtain rfl : k = j := by omega
   unfold ltS; omega
 obtain ⟨T, hT⟩ : ∃ T, T = S.getD j default := ⟨_, rfl⟩
 rw [← hT] at hin hrj hjw hso
 rw [← hq] at hso
 obtain ⟨A', hA'⟩ := Int.eq_ofNat_of_zero_le hrj.a0
 have hb0 := hrj.b0
 have hin2 := hin
 unfold inT at hin2
 have f3 : F p ≤ T.b := hst.later h hj hjk hpW hb0 (by rw [← hT]; unfold inT; have := hrj.c0; omega)
 have f4 : F A' ≤ F p := hst.later h hj hjk (show A' < W by omega) hnn (by rw [← hT]; unfold inT; omega)
 have f5 : p ≤ A' := Nat.le_of_not_lt (fun e => by have := hfst A' e; omega)
 unfold ltS at hso
 have hBm : (B : Int) = F p := by omega
 have f6 : p ≤ A := Nat.le_of_not_lt (fun e => by have := hfst A e; omega)
 have hAp : A = p := by omega
 have hrow : ∀ i, i < C → F (p + i) = F p := fun i hi => by
  have g1 : F (p + i) ≤ (B : Int) := hst.later h hk (Nat.le_refl _) (by omega) (by omega) (inq (by omega) (by omega) (by omega) (by omega))
  have g2 := hmin (p + i) (by omega)
  omega
 have hb1 := hr.b1
 have hCn : q.c.toNat = C := by omega
 rw [hCn]
 refine ⟨⟨by rw [← hpe]; omega, fun i hi => by rw [← hpe]; exact hrow i hi, by rw [← hpe]; omega⟩, by omega, by omega, ⟨fun x => ?_, fun x hx y hy => ?_⟩⟩
 ·have := hst.nn x
  unfold putF
  split <;> omega
 ·have hi := hst.iff x hx y hy
  unfold putF
  by_cases e : p ≤ x ∧ x < p + C
  ·rw [if_pos e]
   have hx2 := hrow (x - p) (by omega)
   rw [show p + (x - p) = x by omega] at hx2
   constructor
   ·intro g
    by_cases g2 : y < F x
    ·obtain ⟨i, h1, h2⟩ := hi.1 g2
     exact ⟨i, by omega, h2⟩
    ·exact ⟨k, by omega, inq (by omega) (by omega) (by omega) (by omega)⟩
   ·rintro ⟨i, h1, h2⟩
    by_cases g : i = k
    ·rw [g, ← hq] at h2
     unfold inT at h2
     omega
    ·have := hi.2 ⟨i, by omega, h2⟩
     omega
  ·rw [if_neg e]
   constructor
   ·intro g
    obtain ⟨i, h1, h2⟩ := hi.1 g
    exact ⟨i, by omega, h2⟩
   ·rintro ⟨i, h1, h2⟩
    by_cases g : i = k
    ·rw [g, ← hq] at h2
     unfold inT at h2
     omega
    ·exact hi.2 ⟨i, by omega, h2⟩
end
theorem lay_take {S : List Tr} {W : Nat} (h : CutOK S) (hs : S.Pairwise (fun a b => ¬ ltS b a)) (hW : wdT S S.length = (W : Int)) : ∀ k, k ≤ S.length → ∃ F, layF W ((szL S).take k) (fun _ => 0) [] = some ((S.take k).map trSq, F) ∧ Stair S W k F
 | 0, _ => ⟨fun _ => 0, rfl, ⟨fun _ => Int.le_refl _, fun x _ y hy => ⟨fun q => by omega, fun ⟨i, hi, _⟩ => by omega⟩⟩⟩
 | k + 1, hk => by
  obtain ⟨F, h1, h2⟩ := lay_take h hs hW k (by omega)
  obtain ⟨g1, g2, g3, g4⟩ := stair_next h hs hW h2 (show k < S.length by omega)
  refine ⟨_, ?_, g4⟩
  rw [layF_take (by rw [szL_len]; omega) h1, szL_get (by omega), if_pos g1, take_succ_getD (by omega), List.map_append]
  simp only [List.map_cons, List.map_nil, trSq]
  rw [g3, g2]
/-- H1 -/
theorem code_lays {S : List Tr} {W : Nat} (h : CutOK S) (hs : S.Pairwise (fun a b => ¬ ltS b a)) (hW : wdT S S.length = (W : Int)) : ∃ F, layF W (szL S) (fun _ => 0) [] = some (S.map trSq, F) ∧ Lvl W F := by
 obtain ⟨F, h1, h2⟩ := lay_take h hs hW S.length (Nat.le_refl _)
 rw [List.take_length, show (szL S).take S.length = szL S by rw [← szL_len S, List.take_length]] at h1
 have hm := meas_bound h.rg S.length (Nat.le_refl _)
 have key : ∀ x : Nat, x < W → F x = htT S S.length := fun x hx => by
  refine Int.le_antisymm ?_ ?_
  ·refine Int.not_lt.1 (fun q => ?_)
   obtain ⟨i, hi, hin⟩ := (h2.iff x hx _ hm.2.2.1).1 q
   have := htT_ge S S.length i hi
   unfold inT at hin
   omega
  ·refine Int.not_lt.1 (fun q => ?_)
   have hn := h2.nn x
   obtain ⟨i, hi, hin⟩ := h.covers (x := (x : Int)) (y := F x) (by omega) (by omega) hn q
   have := (h2.iff x hx _ hn).2 ⟨i, hi, hin⟩
   omega
 refine ⟨F, h1, fun i hi => ?_⟩
 rw [key i hi, key 0 (by omega)]
end Go.Proofs.YtolkchkedieppaaGreat

/- same of the laws of hide, at equal lists of squares. -/
namespace Go.Proofs.YtolkchkedieppaaGreat
open Go.RowKit
attribute [local go_sem ↓] Go.wp_at_zero Go.wp_at_succ
theorem ixSqo (b o n c i : Nat) (hi : i < n) (W : World) :
  (Instr.indexAt 23 (.slice (some ⟨b, o, none⟩) n c) (.int .i64 (i : Int))).run Tryz.prog W = .ok (.pointer (some ⟨b, o + i * 3, none⟩)) W := by
 rw [run_indexAt_slice W _ _ _ _ _ _ sqs_s, if_pos ⟨by omega, by omega⟩, sqs_z]
 simp only [Result.andThen, Int.toNat_natCast]
 congr 3
 unfold Addr.add
 split
 ·rename_i h; simp [show i = 0 by omega]
 ·rfl
/-- a slice of squares, as read -/
structure SqV (w : World) (v : Value) (P : List Tr) : Prop where
 ex : ∃ a c, v = .slice a P.length c ∧ (0 < P.length → ∃ g o, a = some ⟨g, o, none⟩ ∧ TrR w g o P ∧ g < w.heap.size)
theorem sqV_own {w : World} {base : Nat} {v : Value} {P : List Tr} (h : w.ownsRow base 47 3 v P.length (trL P)) : SqV w v P := by
 obtain ⟨a, c, rfl⟩ := own_shape h
 refine ⟨a, c, rfl, fun h0 => ?_⟩
 rcases h.2 with ⟨_, e⟩ | ⟨g, cap, cur, hv, hbg, hg, _⟩
 ·omega
 ·injection hv with e1 e2 e3
  subst e1; subst e3
  exact ⟨g, 0, rfl, trR_own h, (Array.getElem?_eq_some_iff.1 hg).1⟩
/-- a laid square -/
def sqT (q : Sq) : Tr := ⟨(q.x : Nat), q.y, (q.s : Nat)⟩
theorem sqL_trL : ∀ l : List Sq, sqL l = trL (l.map sqT)
 | [] => rfl
 | q :: l => by simp only [sqL, List.map_cons, trL, sqL_trL l]; rfl
end Go.Proofs.YtolkchkedieppaaGreat
