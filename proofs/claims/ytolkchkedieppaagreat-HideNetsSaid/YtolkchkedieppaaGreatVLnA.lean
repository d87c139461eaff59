/- Lay of package hide at sizes in range. -/
import Derived.Test.YtolkchkedieppaaGreatVLayB
import Derived.Deep.DeepCutAuto
import Derived.Deep.CutBlock
import Derived.Test.YtolkchkedieppaaGreatVRdA
import Derived.Deep.LoopGhost
import Derived.Test.YtolkchkedieppaaGreatVSortSq
import Derived.Deep.Slices
import Derived.Deep.SlicePairs
set_option linter.unusedVariables false
set_option linter.unusedSimpArgs false
namespace Go.Proofs.YtolkchkedieppaaGreat
open Go.RowKit
attribute [local go_sem ↓] Go.wp_at_zero Go.wp_at_succ
/-- squares as cells -/
def sqC (q : Sq) : List Value := [.int .i64 (q.x : Nat), .int .i64 q.y, .int .i64 (q.s : Nat)]
def sqL : List Sq → List Value
 | [] => []
 | q :: l => sqC q ++ sqL l
theorem sqL_app (a b : List Sq) : sqL (a ++ b) = sqL a ++ sqL b := by
 induction a with
 | nil => rfl
 | cons x a ih => simp [sqL, ih]
theorem infoS : (Tryz.prog.info? 47).map (fun i => (i.zero, i.size, i.bytes)) = some (some (.agg #[.int .i64 0, .int .i64 0, .int .i64 0]), 3, 24) := by kernel_rfl
theorem newS (w : World) (x : Sq) (t : TypeId) : ∀ j u, (sqC x)[j]? = some u → (w.alloc (.cells (sqC x).toArray t)).cell? ((⟨w.heap.size, 0, none⟩ : Addr).add j) = some u := fun j u hj => by
 have hadd : (⟨w.heap.size, 0, none⟩ : Addr).add j = ⟨w.heap.size, j, none⟩ := by unfold Addr.add; split <;> simp_all
 rw [hadd]
 simp [go_sem]
 exact hj
theorem oneS (x : Sq) : ∀ u ∈ sqC x, u.oneCell' = true := fun u hu => by
 simp [sqC] at hu
 rcases hu with rfl | rfl | rfl <;> rfl
theorem infoF : (Tryz.prog.info? 3).map (fun i => (i.zero, i.size, i.bytes)) = some (some (.int .i64 0), 1, 8) := by kernel_rfl
/-- what Lay keeps -/
structure LayM (w wr : World) (g W B : Nat) (F : Nat → Int) (vo : Value) (out : List Sq) : Prop where
 row : wr.rowIs g 3 W (ic F)
 out : wr.ownsRow B 47 3 vo out.length (sqL out)
 far : g < B
 lb : B ≤ wr.heap.size
 old : w.heap.size ≤ g
 below : Below w.heap.size w wr
section
variable {w wr : World} {g W B : Nat} {F : Nat → Int} {vo : Value} {out : List Sq}
theorem LayM.drawn {w' : World} (h : LayM w wr g W B F vo out) (hd : Drawn wr w') : LayM w w' g W B F vo out :=
 ⟨rowIs_below h.row (hd.below wr.heap.size) h.row.lt, own_kept h.out (hd.below _), h.far, Nat.le_trans h.lb (hd.below wr.heap.size).size, h.old, h.below.trans (hd.below _)⟩
theorem LayM.push {w5 : World} {v' : Value} {x : Sq} (h : LayM w wr g W B F vo out) (ob : Obj) (hgrow : (wr.alloc ob).grownBy w5 vo.ownBlock) (hown : w5.ownsRow B 47 3 v' (out.length + 1) (sqL out ++ sqC x)) :
  LayM w w5 g W B F v' (out ++ [x]) := by
 have hB : Below B wr w5 := ((Below.refl B wr).alloc h.lb ob).grown hgrow (by simp; have := h.lb; omega) (fun kk e => (h.out.lt kk e).1)
 refine ⟨rowIs_below h.row hB h.far, ?_, h.far, Nat.le_trans h.lb hB.size, h.old, h.below.trans (hB.mono (by have := h.old; have := h.far; omega))⟩
 rw [sqL_app, List.length_append]
 simp only [sqL, List.append_nil]
 exact hown
theorem LayM.put {w' : World} {F' : Nat → Int} (h : LayM w wr g W B F vo out) (hr : w'.rowIs g 3 W (ic F')) (hg : wr.grownBy w' (some g)) : LayM w w' g W B F' vo out := by
 refine ⟨hr, h.out.kept hg ?_, h.far, Nat.le_trans h.lb hg.size, h.old, h.below.trans ⟨hg.os, hg.tape, hg.output, hg.size, fun k hk => hg.block k (by have := h.below.size; omega) (fun e => by injection e with e; have := h.old; omega)⟩⟩
 rcases hv : vo.ownBlock with _ | k
 ·exact .inl rfl
 ·right
  intro e
  injection e with e
  have := (h.out.lt k hv).1
  have := h.far
  omega
end
theorem layF_take {W : Nat} {S : List Nat} {F0 : Nat → Int} {k : Nat} (h : k < S.length) {out : List Sq} {F : Nat → Int} (e : layF W (S.take k) F0 [] = some (out, F)) :
  layF W (S.take (k + 1)) F0 [] = if FitP W F (S.getD k 0) then some (out ++ [⟨minAt F (W - 1), F (minAt F (W - 1)), S.getD k 0⟩], putF F (minAt F (W - 1)) (S.getD k 0)) else none := by
 have e1 : S.take (k + 1) = S.take k ++ [S.getD k 0] := by rw [List.take_add_one]; simp [h]
 rw [e1, layF_app, e]
 rfl
theorem layF_none {W : Nat} {S : List Nat} {F0 : Nat → Int} : ∀ k, layF W (S.take k) F0 [] = none → layF W S F0 [] = none := fun k h => by
 have : ∀ (l m : List Nat) (F : Nat → Int) (out : List Sq), layF W l F out = none → layF W (l ++ m) F out = none := fun l => by
  induction l with
  | nil => intro m F out h; cases h
  | cons x l ih =>
   intro m F out h
   simp only [List.cons_append, layF] at h ⊢
   split
   ·rename_i q; rw [if_pos q] at h; exact ih m _ _ h
   ·rfl
 have h2 := this (S.take k) (S.drop k) F0 [] h
 rwa [List.take_append_drop] at h2
theorem getD_mem {S : List Nat} {k : Nat} (h : k < S.length) : S.getD k 0 ∈ S := by simp [h]
set_option maxHeartbeats 4000000 in
set_option maxRecDepth 100000 in
theorem lay_good (v : Value) (W : Nat) (S : List Nat) (w : World) (hv : Ints w v S.length (eF S)) (hW : 1 ≤ W) (hW2 : W ≤ 1000) (hS0 : 0 < S.length) (hS24 : S.length ≤ 24) (hS : ∀ s ∈ S, 1 ≤ s ∧ s ≤ 1000) :
  Calls Tryz.prog 15 #[.int .i64 (W : Nat), v] w fun e w' =>
   ((∃ out F, layF W S (fun _ => 0) [] = some (out, F) ∧ Lvl W F ∧ ∃ va vk, e = .returned (.tuple #[.slice va out.length vk, .int .i64 0]) ∧ w'.ownsRow w.heap.size 47 3 (.slice va out.length vk) out.length (sqL out)) ∨
    ((∀ out F, layF W S (fun _ => 0) [] = some (out, F) → ¬ Lvl W F) ∧ e = .returned (.tuple #[.slice none 0 0, .int .i64 5]))) ∧ Below w.heap.size w w' := by
 have HI := Lib.hid hv
 obtain ⟨sa, sb, so, sc, rfl, hs⟩ := hv
 have HS := Lib.hid hs
 have HSS := Lib.hid hS
 obtain ⟨i0, hinf, hz0, hz1, hz2⟩ := info_parts infoS
 have d1 : decide ((24 : Int) < ((S.length : Nat) : Int)) = false := by simp; omega
 have d1n : decide (24 < S.length) = false := by simp; omega
 have d2 : (((S.length : Nat) : Int) == 0) = false := by rw [beq_eq_false_iff_ne]; omega
 have d2n : (S.length == 0) = false := by rw [beq_eq_false_iff_ne]; omega
 have HNB : Hid ((false : Bool) = true ↔ ∃ i, i < S.length ∧ (eF S i < 1 ∨ 1000 < eF S i)) := Lib.hid ⟨fun q => Bool.noConfusion q, fun ⟨i, hi, q⟩ => by
  exfalso
  have := hS _ (getD_mem hi)
  unfold eF at q
  omega⟩
 have hmk := run_make_row' (P := Tryz.prog) 84 3 (.int .i64 0) 8 Tryz.underlying84 infoF rfl .i64 .i64 W (by omega) (by omega)
 clear hs hS
 go_enter Tryz.func15, Tryz.ntmps15
 go_wp2_with (first
  | (go_at_call 47; (with_reducible refine (lay_not _ _ (by omega)).mono ?_); rintro e w1 ⟨rfl, rfl⟩)
  | (go_at_call 48; (with_reducible refine (lay_cont _ S.length (eF S) false HNB.out _ HI.out (by omega)).mono ?_); rintro e w2 ⟨rfl, hd⟩; have HD := Lib.hid hd; clear hd))
 generalize hgw : w2.heap.size = g
 have hBW : w.heap.size ≤ g := by rw [← hgw]; exact (HD.out.below w.heap.size).size
 have L0 : Hid (LayM w (w2.alloc (.cells (madeCells #[.int .i64 0] W) 3)) g W (g + 1) (fun _ => 0) (.slice none 0 0) []) := Lib.hid (by
  rw [← hgw] at hBW ⊢
  exact ⟨World.rowIs_made w2 (.int .i64 0) W 3, World.ownsRow_nil _ _ _ _, by omega, by simp, hBW, (HD.out.below w.heap.size).alloc hBW _⟩)
 have LE0 : Hid (layF W (S.take 0) (fun _ => 0) [] = some ([], fun _ => 0)) := Lib.hid rfl
 have HS2 := Lib.hid (HS.out.drawn HD.out)
 go_loopw [8, 10, 11, 12, 35] (fun v8 v10 v11 v12 v35 wr => ∃ (k : Nat) (out : List Sq) (F : Nat → Int) (vo : Value), k ≤ S.length ∧ v35 = .int .i64 (k : Nat) ∧ vo = v8 ∧ Hid (out.length = k) ∧ Hid (layF W (S.take k) (fun _ => 0) [] = some (out, F)) ∧ Hid (∀ i, 0 ≤ F i ∧ F i ≤ 1000) ∧ Hid (LayM w wr g W (g + 1) F vo out)) (fun _ _ _ _ v35 _ => S.length - (intOf v35).toNat)
 case atStart => exact ⟨0, [], fun _ => 0, _, by omega, rfl, rfl, Lib.hid rfl, LE0, Lib.hid (fun _ => by simp), L0⟩
 case round =>
  clear L0 LE0 hmk
  obtain ⟨k, out, F, vo, hk, rfl, rfl, HOL, LE, FR, LM⟩ := hrel
  obtain ⟨va, vk, rfl⟩ := own_shape LM.out.out
  have hln : out.length ≤ 24 := by have := HOL.out; omega
  have HIF := Lib.hid (show Ints wr (.slice (some ⟨g, 0, none⟩) W W) W F from ⟨_, _, _, _, rfl, rowIs_sl LM.out.row⟩)
  by_cases h : k < S.length
  ·have e1 : decide ((k : Int) < ((S.length : Nat) : Int)) = true := by simpa using h
   have e1n : decide (k < S.length) = true := by simpa using h
   have hix := fun W' => ixI HS2.out k sc h W'
   have hc := (HS.out.mono LM.out.below (Nat.le_refl _)).cell k h
   simp only [ic, eF] at hc
   have hsr := HSS.out _ (getD_mem h)
   obtain ⟨s, hs⟩ : ∃ s, s = S.getD k 0 := ⟨_, rfl⟩
   rw [← hs] at hc hsr
   have HSK := Lib.hid hs
   clear hs
   go_upto_region 12 with (go_at_call 49; (with_reducible refine (fnext_any _ W F _ HIF.out hW hW2).mono ?_); rintro e w3 ⟨r, hrun, rfl, hd⟩; have HRUN := Lib.hid hrun; have LM := Lib.hid (LM.out.drawn hd); clear hrun hd)
   clear hix hc
   have hp := minAt_le F (W - 1)
   have hrl := HRUN.out.le
   have hfit := HRUN.out.fit (s := s)
   obtain ⟨p, hpe⟩ : ∃ p, p = minAt F (W - 1) := ⟨_, rfl⟩
   have hfr := FR.out p
   rw [← hpe] at hp hrl hfit ⊢
   have HPE := Lib.hid hpe
   have HFIT := Lib.hid hfit
   clear hfit hpe
   have hpW : p < W := by omega
   have ipx := fun W' => ixFl (rowIs_sl LM.out.row) p W hpW W'
   have cp := LM.out.row.cell (i := p) hpW
   simp only [ic, Nat.zero_add] at ipx cp
   have hwr : IntKind.i64.wrap (F p + (s : Int)) = F p + (s : Int) := by rw [IntKind.wrap_i64]; omega
   by_cases h1 : r < s
   ·have e2 : decide ((r : Int) < (s : Int)) = true := by simpa using h1
    have e2n : decide (r < s) = true := by simpa using h1
    have HNF : Hid (¬ FitP W F s) := Lib.hid (fun q => by have := (HFIT.out.1 q).1; omega)
    clear h1
    go_wp2_with fail
    go_ret2
    refine ⟨.inr ⟨fun o F' e' => ?_, rfl⟩, LM.out.below⟩
    have := layF_none (k + 1) (by rw [layF_take h LE.out, ← HSK.out, if_neg HNF.out])
    rw [this] at e'; cases e'
   ·have e2 : decide ((r : Int) < (s : Int)) = false := by simpa using h1
    have e2n : decide (r < s) = false := by simpa using h1
    by_cases h2 : 1000 < F p + (s : Int)
    ·have e3 : decide ((1000 : Int) < F p + (s : Int)) = true := by simpa using h2
     have HNF : Hid (¬ FitP W F s) := Lib.hid (fun q => by have := (HFIT.out.1 q).2; omega)
     clear h1 h2
     go_wp2_with fail
     go_ret2
     refine ⟨.inr ⟨fun o F' e' => ?_, rfl⟩, LM.out.below⟩
     have := layF_none (k + 1) (by rw [layF_take h LE.out, ← HSK.out, if_neg HNF.out])
     rw [this] at e'; cases e'
    ·have e3 : decide ((1000 : Int) < F p + (s : Int)) = false := by simpa using h2
     have HYF : Hid (FitP W F s) := Lib.hid (HFIT.out.2 ⟨by omega, by omega⟩)
     have hps : p + s ≤ W := by omega
     have HFB : Hid (∀ i, i < W → -1000 ≤ F i ∧ F i ≤ 1000) := Lib.hid (fun i _ => by have := FR.out i; omega)
     have LE2 : Hid (layF W (S.take (k + 1)) (fun _ => 0) [] = some (out ++ [⟨p, F p, s⟩], putF F p s)) := Lib.hid (by rw [layF_take h LE.out, ← HSK.out, if_pos HYF.out, ← HPE.out])
     have FR2 : Hid (∀ i, 0 ≤ putF F p s i ∧ putF F p s i ≤ 1000) := Lib.hid (layF_range W _ _ _ _ _ (fun i => by simp) LE2.out).1
     clear h1 h2
     have hlb := LM.out.lb
     go_wp2_with (first
      | (at_builtin; refine wpList_append_own_at _ rfl (.tmp 56) (.tmp 64) 23 rfl (g + 1) 47 i0 _ 3 24 Tryz.underlying23 hinf hz0 hz1 hz2 rfl (by decide) (.slice va out.length vk) out.length (sqL out) rfl (LM.out.out.alloc _) ⟨w3.heap.size, 0, none⟩ 1 1 (sqC ⟨p, F p, s⟩) rfl rfl (newS w3 ⟨p, F p, s⟩ _) (oneS ⟨p, F p, s⟩) (by unfold maxLen; omega) (by omega) (by simp; omega) ?_; intro v' w5 hown hgrow _ hbk; have LM := Lib.hid (LM.out.push (x := ⟨p, F p, s⟩) _ hgrow hown); obtain ⟨vb, vc, rfl⟩ := own_shape hown; clear hown hgrow hbk)
      | (go_at_call 50; (with_reducible refine (fput_any g W s p (s : Int) F _ LM.out.row hps hW2 HFB.out (by omega)).mono ?_); rintro e w6 ⟨rfl, hr, hgr⟩; have LM := Lib.hid (LM.out.put hr hgr); clear hr hgr))
     go_roundw
     case rel => exact ⟨k + 1, _, _, _, by omega, by go_num, rfl, Lib.hid (by simp; exact HOL.out), LE2, FR2, LM⟩
     case measure => simp [intOf]; omega
  ·have hke : k = S.length := by omega
   have e1 : decide ((k : Int) < ((S.length : Nat) : Int)) = false := by simp; omega
   have e1n : decide (k < S.length) = false := by simpa using h
   have LEE : Hid (layF W S (fun _ => 0) [] = some (out, F)) := Lib.hid (by have := LE.out; rw [hke, List.take_length] at this; exact this)
   have hlv := lvl_iff (F := F) hW
   clear hke h
   by_cases hl : Lvl W F
   ·have e2 : (F (minAt F (W - 1)) != maxTo F (W - 1)) = false := by have := hlv.2 hl; simpa using this
    have HLV := Lib.hid hl
    clear hl hlv
    go_wp2_with (first
     | (go_at_call 51; (with_reducible refine (fmin_any _ W F _ HIF.out hW hW2).mono ?_); rintro e w7 ⟨rfl, rfl⟩)
     | (go_at_call 52; (with_reducible refine (fmax_any _ W F _ HIF.out hW hW2).mono ?_); rintro e w7 ⟨rfl, rfl⟩))
    go_ret2
    exact ⟨.inl ⟨out, F, LEE.out, HLV.out, va, vk, rfl, own_base LM.out.out (by omega)⟩, LM.out.below⟩
   ·have e2 : (F (minAt F (W - 1)) != maxTo F (W - 1)) = true := by rw [bne_iff_ne]; exact fun e => hl (hlv.1 e)
    have HLV := Lib.hid hl
    clear hl hlv
    go_wp2_with (first
     | (go_at_call 51; (with_reducible refine (fmin_any _ W F _ HIF.out hW hW2).mono ?_); rintro e w7 ⟨rfl, rfl⟩)
     | (go_at_call 52; (with_reducible refine (fmax_any _ W F _ HIF.out hW hW2).mono ?_); rintro e w7 ⟨rfl, rfl⟩))
    go_ret2
    refine ⟨.inr ⟨fun o F' e' => ?_, rfl⟩, LM.out.below⟩
    rw [LEE.out] at e'
    injection e' with e'
    injection e' with e1' e2'
    rw [← e2']; exact HLV.out
end Go.Proofs.YtolkchkedieppaaGreat

/- same of the laws of hide, at equal lists of squares. -/
namespace Go.Proofs.YtolkchkedieppaaGreat
open Go.RowKit
attribute [local go_sem ↓] Go.wp_at_zero Go.wp_at_succ
theorem ixSqo (b o n c i : Nat) (hi : i < n) (W : World) :
  (Instr.indexAt 23 (.slice (some ⟨b, o, none⟩) n c) (.int .i64 (i : Int))).run Tryz.prog W = .ok (.pointer (some ⟨b, o + i * 3, none⟩)) W := by
 rw [run_indexAt_slice W _ _ _ _ _ _ sqs_s, if_pos ⟨by omega, by omega⟩, sqs_z]
 simp only [Result.andThen, Int.toNat_natCast]
 congr 3
 unfold Addr.add
 split
 ·rename_i h; simp [show i = 0 by omega]
 ·rfl
/-- a slice of squares, as read -/
structure SqV (w : World) (v : Value) (P : List Tr) : Prop where
 ex : ∃ a c, v = .slice a P.length c ∧ (0 < P.length → ∃ g o, a = some ⟨g, o, none⟩ ∧ TrR w g o P ∧ g < w.heap.size)
theorem SqV.mono {w w' : World} {B : Nat} {v : Value} {P : List Tr} (h : SqV w v P) (hb : Below B w w') (hB : w.heap.size ≤ B) : SqV w' v P := by
 obtain ⟨a, c, e, h1⟩ := h.ex
 refine ⟨a, c, e, fun h0 => ?_⟩
 obtain ⟨g, o, e2, h2, h3⟩ := h1 h0
 exact ⟨g, o, e2, h2.below hb (Nat.lt_of_lt_of_le h3 hB), Nat.lt_of_lt_of_le h3 hb.size⟩
theorem sqV_own {w : World} {base : Nat} {v : Value} {P : List Tr} (h : w.ownsRow base 47 3 v P.length (trL P)) : SqV w v P := by
 obtain ⟨a, c, rfl⟩ := own_shape h
 refine ⟨a, c, rfl, fun h0 => ?_⟩
 rcases h.2 with ⟨_, e⟩ | ⟨g, cap, cur, hv, hbg, hg, _⟩
 ·omega
 ·injection hv with e1 e2 e3
  subst e1; subst e3
  exact ⟨g, 0, rfl, trR_own h, (Array.getElem?_eq_some_iff.1 hg).1⟩
end Go.Proofs.YtolkchkedieppaaGreat

/- The arguments of the laws, opened: slices of squares. -/
namespace Go.Proofs.YtolkchkedieppaaGreat
open Go.ChangeShapes Go.WideShapes Go.ChangeAt Go.RowKit Go.Deep
/-- a slice of squares, as read, with its capacity -/
structure SqA (w : World) (v : Value) (S : List Tr) : Prop where
 ex : ∃ a c, v = .slice a S.length c ∧ S.length ≤ c ∧ c ≤ 9223372036854775807 ∧ (a = none → c = 0) ∧ (0 < S.length → ∃ g o, a = some ⟨g, o, none⟩ ∧ TrR w g o S ∧ g < w.heap.size)
theorem sqStruct : ∃ f0 f1 f2, Tryz.prog.underlying 47 = some (.struct #[f0, f1, f2]) ∧ Tryz.prog.cellsOf 47 = 3 ∧ f0.offset = 0 ∧ f1.offset = 1 ∧ f2.offset = 2 ∧ Tryz.prog.underlying f0.type = some (.int .i64) ∧ Tryz.prog.underlying f1.type = some (.int .i64) ∧ Tryz.prog.underlying f2.type = some (.int .i64) ∧ Tryz.prog.cellsOf f0.type = 1 ∧ Tryz.prog.cellsOf f1.type = 1 ∧ Tryz.prog.cellsOf f2.type = 1 :=
 ⟨_, _, _, Tryz.underlying47, by kernel_rfl, by kernel_rfl, by kernel_rfl, by kernel_rfl, by kernel_rfl, by kernel_rfl, by kernel_rfl, by kernel_rfl, by kernel_rfl, by kernel_rfl⟩
section
variable {H : Type} {enc : TypeId × Value → H}
set_option maxRecDepth 100000 in
theorem squares_of_trod {W : World} {base : Nat} {v : Value} {d : DataW H} {ps : List MemPlace} (hv : Value.okWide Tryz.prog W .any base 23 v) (h : DataW.Trod enc Tryz.prog W 0 (fun _ => true) true 23 v d ps) :
  ∃ S, SqA W v S := by
 obtain ⟨a0, len, cap, rfl⟩ := okWide_slice Tryz.underlying23 hv
 obtain ⟨fuel, hf⟩ := h
 obtain ⟨f0, f1, f2, he, ce, o0, o1, o2, t0, t1, t2, c0, c1, c2⟩ := sqStruct
 rcases open_slice Tryz.underlying23 hf with ⟨hcs, _⟩ | ⟨a, len', cap', m, n, D, Pl, hcs, _, hl, hm, hmm, _, hx⟩
 ·simp [Value.cells] at hcs
  obtain ⟨rfl, rfl, rfl⟩ := hcs
  exact ⟨[], _, _, rfl, Nat.le_refl _, Nat.zero_le _, fun _ => rfl, fun q => absurd q (by simp)⟩
 ·simp [Value.cells] at hcs
  obtain ⟨rfl, rfl, rfl⟩ := hcs
  simp only [if_true] at hmm
  unfold maxLen at hm
  have each : ∀ i, i < len → ∃ q : Tr, W.cell? (a.add (i * 3)) = some (.int .i64 q.a) ∧ W.cell? (a.add (i * 3 + 1)) = some (.int .i64 q.b) ∧ W.cell? (a.add (i * 3 + 2)) = some (.int .i64 q.c) := by
   intro i hi
   obtain ⟨cs', h1, h2⟩ := hx i (by omega)
   rw [ce] at h1
   obtain ⟨_, hlen, hcell⟩ := World.cells?_some h1
   obtain ⟨xs, k, hk, hxy, _, hxl, hf⟩ := DataW.trod_struct he h2
   match xs, hxl, cs', hlen with
   | [y0, y1, y2], _, [v0, v1, v2], _ =>
    have g0 := hf 0 f0 rfl
    have g1 := hf 1 f1 rfl
    have g2 := hf 2 f2 rfl
    simp [o0, o1, o2, c0, c1, c2] at g0 g1 g2
    have e0 := hcell 0 (by omega)
    have e1 := hcell 1 (by omega)
    have e2 := hcell 2 (by omega)
    rw [Go.Deep.add_add] at e0 e1 e2
    obtain ⟨n0, q0, _, _⟩ := DataW.trod_int t0 g0
    obtain ⟨n1, q1, _, _⟩ := DataW.trod_int t1 g1
    obtain ⟨n2, q2, _, _⟩ := DataW.trod_int t2 g2
    simp at q0 q1 q2
    subst q0 q1 q2
    exact ⟨⟨n0, n1, n2⟩, by simpa using e0, by simpa using e1, by simpa using e2⟩
  obtain ⟨q, hq⟩ := choose_lt each
  refine ⟨(List.range len).map q, some a, cap, by simp, by simpa using hl, by omega, fun e => (by cases e), fun h0 => ?_⟩
  have h0 : 0 < len := by simpa using h0
  have e := plain_addr (a := a) (u := .int .i64 (q 0).a) (by simpa using (hq 0 h0).1)
  rw [e]
  have hq2 := hq
  rw [e] at hq2
  simp only [addr_add] at hq2
  have hgt : ∀ i, i < len → ((List.range len).map q).getD i default = q i := fun i hi => by simp [hi]
  refine ⟨a.block, a.off, rfl, ⟨fun i hi => ?_, fun i hi => ?_, fun i hi => ?_⟩, World.block_lt_of_cell? W ⟨a.block, a.off + 0 * 3, none⟩ (hq2 0 h0).1⟩
  ·have hi : i < len := by simpa using hi
   rw [hgt i hi]; exact (hq2 i hi).1
  ·have hi : i < len := by simpa using hi
   rw [hgt i hi]; exact (hq2 i hi).2.1
  ·have hi : i < len := by simpa using hi
   rw [hgt i hi]; exact (hq2 i hi).2.2
end
end Go.Proofs.YtolkchkedieppaaGreat

/- A cut covers its rectangle, plainly: squares that do not overlap, counted cell by cell. -/
namespace Go.Proofs.YtolkchkedieppaaGreat
/-- a cell lies in a square -/
def inT (p : Tr) (x y : Int) : Prop := p.a ≤ x ∧ x < p.a + p.c ∧ p.b ≤ y ∧ y < p.b + p.c
instance (p : Tr) (x y : Int) : Decidable (inT p x y) := by unfold inT; infer_instance
/-- the measures bound the squares -/
theorem wdT_ge (S : List Tr) : ∀ k i, i < k → (S.getD i default).a + (S.getD i default).c ≤ wdT S k
 | 0, i, h => by omega
 | k + 1, i, h => by
  simp only [wdT]
  by_cases e : i = k
  ·subst e; split <;> omega
  ·have := wdT_ge S k i (by omega)
   split <;> omega
theorem htT_ge (S : List Tr) : ∀ k i, i < k → (S.getD i default).b + (S.getD i default).c ≤ htT S k
 | 0, i, h => by omega
 | k + 1, i, h => by
  simp only [htT]
  by_cases e : i = k
  ·subst e; split <;> omega
  ·have := htT_ge S k i (by omega)
   split <;> omega
end Go.Proofs.YtolkchkedieppaaGreat

/- Cuts that are made by adding rows of equal squares, plainly. -/
namespace Go.Proofs.YtolkchkedieppaaGreat
def sumC : List Tr → Int
 | [] => 0
 | t :: l => t.c * t.c + sumC l
theorem sumC_app : ∀ (a b : List Tr), sumC (a ++ b) = sumC a + sumC b
 | [], b => by simp [sumC]
 | t :: a, b => by simp only [List.cons_append, sumC, sumC_app a b]; omega
/-- a cut with its measures -/
structure MkC (L : List Tr) (W H : Nat) : Prop where
 pos : 0 < L.length
 w1 : 1 ≤ W
 h1 : 1 ≤ H
 wb : W ≤ 1000
 hb : H ≤ 1000
 rg : ∀ t, t ∈ L → 0 ≤ t.a ∧ 0 ≤ t.b ∧ 1 ≤ t.c ∧ t.a + t.c ≤ (W : Int) ∧ t.b + t.c ≤ (H : Int)
 ap : L.Pairwise (fun p q => ApT q p)
 ar : sumC L = (W : Int) * (H : Int)
 mw : ∃ t, t ∈ L ∧ t.a + t.c = (W : Int)
 mh : ∃ t, t ∈ L ∧ t.b + t.c = (H : Int)
theorem getD_memT {L : List Tr} {i : Nat} (h : i < L.length) : L.getD i default ∈ L := by simp [h]
theorem arT_sum (S : List Tr) : ∀ k, k ≤ S.length → arT S k = sumC (S.take k)
 | 0, _ => rfl
 | k + 1, h => by
  have e : S.take (k + 1) = S.take k ++ [S.getD k default] := by rw [List.take_add_one]; simp [show k < S.length by omega]
  simp only [arT]
  rw [e, sumC_app, arT_sum S k (by omega)]
  simp [sumC]
theorem wdT_le {S : List Tr} {W : Int} (h0 : 0 ≤ W) (h : ∀ t, t ∈ S → t.a + t.c ≤ W) : ∀ k, k ≤ S.length → wdT S k ≤ W
 | 0, _ => h0
 | k + 1, hk => by
  have := wdT_le h0 h k (by omega)
  have := h _ (getD_memT (show k < S.length by omega))
  simp only [wdT]; split <;> omega
theorem htT_le {S : List Tr} {H : Int} (h0 : 0 ≤ H) (h : ∀ t, t ∈ S → t.b + t.c ≤ H) : ∀ k, k ≤ S.length → htT S k ≤ H
 | 0, _ => h0
 | k + 1, hk => by
  have := htT_le h0 h k (by omega)
  have := h _ (getD_memT (show k < S.length by omega))
  simp only [htT]; split <;> omega
theorem MkC.wd {L : List Tr} {W H : Nat} (h : MkC L W H) : wdT L L.length = (W : Int) := by
 have h1 := wdT_le (S := L) (W := (W : Int)) (by omega) (fun t ht => (h.rg t ht).2.2.2.1) L.length (Nat.le_refl _)
 obtain ⟨t, ht, e⟩ := h.mw
 obtain ⟨i, hi, rfl⟩ := List.getElem_of_mem ht
 have h2 := wdT_ge L L.length i hi
 simp [hi] at h2
 omega
theorem MkC.ht {L : List Tr} {W H : Nat} (h : MkC L W H) : htT L L.length = (H : Int) := by
 have h1 := htT_le (S := L) (H := (H : Int)) (by omega) (fun t ht => (h.rg t ht).2.2.2.2) L.length (Nat.le_refl _)
 obtain ⟨t, ht, e⟩ := h.mh
 obtain ⟨i, hi, rfl⟩ := List.getElem_of_mem ht
 have h2 := htT_ge L L.length i hi
 simp [hi] at h2
 omega
theorem MkC.cut {L : List Tr} {W H : Nat} (h : MkC L W H) (hn : L.length ≤ 24) : CutOK L := by
 refine ⟨h.pos, hn, fun i hi => ?_, fun i j hji hi => ?_, ?_⟩
 ·obtain ⟨h1, h2, h3, h4, h5⟩ := h.rg _ (getD_memT hi)
  have := h.wb
  have := h.hb
  exact ⟨h1, h2, h3, by omega, by omega, by omega⟩
 ·have := List.pairwise_iff_getElem.1 h.ap j i (by omega) hi hji
  simpa [hi, Nat.lt_trans hji hi] using this
 ·rw [h.wd, h.ht, arT_sum L L.length (Nat.le_refl _), List.take_length]; exact h.ar
end Go.Proofs.YtolkchkedieppaaGreat

/- Lines of a cut: compared and sorted. -/
namespace Go.Proofs.YtolkchkedieppaaGreat
open Go.RowKit Go.Sort Go.Shelf Go.Lib
attribute [local go_sem ↓] Go.wp_at_zero Go.wp_at_succ
/-- how lines are compared: by y, then from, then to -/
def cmpL (p q : Tr) : Int := if p.a < q.a then -1 else if q.a < p.a then 1 else if p.b < q.b then -1 else if q.b < p.b then 1 else if p.c < q.c then -1 else if q.c < p.c then 1 else 0
def ltL (p q : Tr) : Prop := p.a < q.a ∨ (p.a = q.a ∧ (p.b < q.b ∨ (p.b = q.b ∧ p.c < q.c)))
theorem cmpL_lt (p q : Tr) : cmpL p q < 0 ↔ ltL p q := by
 unfold cmpL ltL
 repeat' split
 all_goals (simp; try omega)
theorem swo_cmpL : Go.Sort.SWO (ltOf cmpL) where
 irrefl x := by rw [ltOf, decide_eq_false_iff_not, cmpL_lt]; unfold ltL; omega
 trans x y z h1 h2 := by
  rw [ltOf, decide_eq_true_iff, cmpL_lt] at *
  unfold ltL at *; omega
 ntrans x y z h1 h2 := by
  rw [ltOf, decide_eq_false_iff_not, cmpL_lt] at *
  unfold ltL at *; omega
def thF (p q r : Int) : Nat → Int := fun j => if j = 0 then p else if j = 1 then q else r
theorem th_ints (w : World) (p q r : Int) : Ints (w.alloc (.cells #[.int .i64 p, .int .i64 q, .int .i64 r] 3)) (.slice (some ⟨w.heap.size, 0, none⟩) 3 3) 3 (thF p q r) :=
 ints_of_own (base := w.heap.size) ⟨rfl, .inr ⟨w.heap.size, 3, #[.int .i64 p, .int .i64 q, .int .i64 r], rfl, Nat.le_refl _, heap_alloc_new w _, by omega, by unfold maxLen; omega, rfl, rfl⟩⟩
theorem lexLn (x y : Tr) : lexC (thF x.a x.b x.c) (thF y.a y.b y.c) 3 3 3 0 = cmpL x y := by
 have t0 : ∀ p q r : Int, thF p q r 0 = p := fun _ _ _ => rfl
 have t1 : ∀ p q r : Int, thF p q r 1 = q := fun _ _ _ => rfl
 have t2 : ∀ p q r : Int, thF p q r 2 = r := fun _ _ _ => rfl
 simp only [lexC, cmp3, cmpL, Nat.zero_add, Nat.reduceAdd, t0, t1, t2]
 by_cases a1 : x.a < y.a
 ·simp [a1]
 ·by_cases a2 : y.a < x.a
  ·simp [a1, a2]
  ·by_cases b1 : x.b < y.b
   ·simp [a1, a2, b1]
   ·by_cases b2 : y.b < x.b
    ·simp [a1, a2, b1, b2]
    ·by_cases c1 : x.c < y.c
     ·simp [a1, a2, b1, b2, c1]
     ·by_cases c2 : y.c < x.c
      ·simp [a1, a2, b1, b2, c1, c2]
      ·simp [a1, a2, b1, b2, c1, c2]
theorem ownT_sort {w : World} {base g cap : Nat} {e : TypeId} {P : List Tr} {d : Array Tr} {m : Nat} {os : Array Obj} (h : w.ownsRow base e 3 (.slice (some ⟨g, 0, none⟩) P.length cap) P.length (trL P)) (hs : d.size = P.length) :
  (sortWorldK trC 3 w g 0 m d os).ownsRow base e 3 (.slice (some ⟨g, 0, none⟩) P.length cap) P.length (trL d.toList) := by
 have hl : d.toList.length = P.length := by simpa using hs
 have hH := holdsK_sortWorldK_c trC 3 w g 0 P.toArray d m os (holdsT_own h) (h.lt g rfl).2 (by simpa using hs)
 rcases h.2 with ⟨h', _⟩ | ⟨g', cap', cur, h', hb, hg, hnc, hcm, hcs, htake⟩
 ·simp at h'
 ·simp only [Value.slice.injEq, Option.some.injEq, Addr.mk.injEq, and_true, true_and] at h'
  obtain ⟨rfl, rfl⟩ := h'
  have hlt : g < w.heap.size := (Array.getElem?_eq_some_iff.1 hg).1
  have hblk : (sortWorldK trC 3 w g 0 m d os).heap[g]? = some (.cells (putCells id 0 (flatK trC 3 d) cur) e (0, 0)) := by
   unfold sortWorldK grow putRowK putRow mapBlock
   rw [Array.getElem?_append_left (by simp [Sort.ahead]; omega), Array.getElem?_modify, if_pos rfl]
   show (w.heap[g]?).map _ = _
   rw [hg]; rfl
  refine ⟨by rw [trL_len, hl], .inr ⟨g, cap, _, rfl, hb, hblk, hnc, hcm, by simp [putCells, hcs], ?_⟩⟩
  have hn3 : P.length * 3 ≤ cap * 3 := Nat.mul_le_mul_right 3 hnc
  apply List.ext_getElem?
  intro t
  by_cases ht : t < P.length * 3
  ·have hc := (hH t (by simpa [hs] using ht)).1
   rw [Nat.zero_add, cell_of_row _ g t _ e (0, 0) hblk] at hc
   have hf := flatT_get d.toList t (by rw [hl]; exact ht)
   rw [List.getElem?_take, if_pos ht, trL_get d.toList t (by rw [hl]; exact ht), Array.getElem?_toList, hc]
   rw [show d.toList.toArray = d by simp] at hf
   rw [id, hf]
   have h3 : t % 3 < 3 := Nat.mod_lt _ (by omega)
   generalize d.toList.getD (t / 3) default = x
   rcases (show t % 3 = 0 ∨ t % 3 = 1 ∨ t % 3 = 2 by omega) with e | e | e <;> rw [e] <;> rfl
  ·rw [List.getElem?_take, if_neg ht, List.getElem?_eq_none_iff.2 (by rw [trL_len, hl]; omega)]
set_option maxHeartbeats 1000000 in
set_option maxRecDepth 100000 in
theorem lcmp_any (x y : Tr) (W : World) : Calls Tryz.prog 107 #[.agg #[.int .i64 x.a, .int .i64 x.b, .int .i64 x.c], .agg #[.int .i64 y.a, .int .i64 y.b, .int .i64 y.c]] W fun e w' => e = .returned (.int .i64 (cmpL x y)) ∧ ∃ q os', w' = grow (W.drewN q) os' := by
 obtain ⟨W2, hW2⟩ : ∃ W2, W2 = (W.alloc (.cells #[.int .i64 x.a, .int .i64 x.b, .int .i64 x.c] 96)).alloc (.cells #[.int .i64 y.a, .int .i64 y.b, .int .i64 y.c] 96) := ⟨_, rfl⟩
 have e2 : W2.heap.size = W.heap.size + 1 + 1 := by rw [hW2]; simp
 have hcon := compare_ints _ _ 3 3 (thF x.a x.b x.c) (thF y.a y.b y.c) _ ((th_ints W2 x.a x.b x.c).mono ((Below.refl _ _).alloc (Nat.le_refl _) (.cells #[.int .i64 y.a, .int .i64 y.b, .int .i64 y.c] 3)) (Nat.le_refl _)) (th_ints (W2.alloc (.cells #[.int .i64 x.a, .int .i64 x.b, .int .i64 x.c] 3)) y.a y.b y.c) (by omega) (by omega)
 rw [lexLn, World.size_alloc, e2] at hcon
 rw [hW2] at hcon
 clear hW2 e2
 generalize cmpL x y = r at hcon ⊢
 go_enter Tryz.func107, Tryz.ntmps107
 go_wp2_with (go_at_call 97; (with_reducible refine hcon.mono ?_); rintro e w' ⟨rfl, rfl⟩)
 go_ret
 exact ⟨rfl, grow4T _ _ _ _ _⟩
theorem lcmp_lays (blk off size : Nat) (w : World) : CmpLays Tryz.prog 107 #[] trC 3 cmpL blk off size w :=
 fun _ _ _ _ x y => lcmp_any x y _
set_option maxHeartbeats 1000000 in
theorem sortLn_any (w : World) (base g cap : Nat) (P : List Tr) (h : w.ownsRow base 96 3 (.slice (some ⟨g, 0, none⟩) P.length cap) P.length (trL P)) (h1000 : P.length ≤ 1000) :
  Calls Tryz.prog 106 #[.slice (some ⟨g, 0, none⟩) P.length cap, .func (.func 107) #[] #[]] w fun e w' => e = .returned (.tuple #[]) ∧ ∃ P' : List Tr, P'.length = P.length ∧ P.Perm P' ∧ P'.Pairwise (fun a b => ¬ ltL b a) ∧ w'.ownsRow base 96 3 (.slice (some ⟨g, 0, none⟩) P'.length cap) P'.length (trL P') ∧ Below g w w' ∧ g < w'.heap.size ∧ (∀ k, k ≠ g → k < w.heap.size → w'.heap[k]? = w.heap[k]?) := by
 have hgb : base ≤ g ∧ g < w.heap.size := h.lt g rfl
 have eg : ∀ args w, (callFunc 107 args).run Tryz.prog w = .ok (.enter 107 args) w := enters_of Tryz.func107 (by kernel_rfl) rfl
 have hcon := AnyQ.slices_SortFunc Tryz.sortLn 3 Tryz.isAgg96 Tryz.sizeOf96 trC (fun _ => rfl) (fun x v hv => by simp [trC] at hv; rcases hv with rfl | rfl | rfl <;> rfl) cmpL swo_cmpL 107 #[] g 0 cap P.toArray w eg (lcmp_lays g 0 P.toArray.size w) (holdsT_own h) hgb.2 (by simp; omega)
 rw [show P.toArray.size = P.length from rfl] at hcon
 refine Calls.mono hcon ?_
 rintro e w' ⟨rfl, d', n, os, hp, hs, rfl⟩
 have hsz : d'.size = P.length := by have := hp.1; simpa using this
 refine ⟨rfl, d'.toList, by simpa using hsz, by have := permT_of hp; simpa using this, ?_, ?_, sortT_below (Nat.le_refl _) (by omega), ?_, fun k hk hkw => ?_⟩
 ·have := sortedT_of (d := P.toArray) (by simpa using hsz) hs
  exact this.imp (fun {a b} q e => q ((cmpL_lt _ _).2 e))
 ·have := ownT_sort (m := n) (os := os) h hsz
  rw [show d'.toList.length = P.length by simpa using hsz]
  exact this
 ·exact Nat.lt_of_lt_of_le hgb.2 (size_sortWorldK_c _ _ _ _ _ _ _ _)
 ·unfold sortWorldK grow putRowK putRow mapBlock
  rw [Array.getElem?_append_left (by simp [Sort.ahead]; omega), Array.getElem?_modify, if_neg (fun e => hk e.symm)]
  rfl
end Go.Proofs.YtolkchkedieppaaGreat
