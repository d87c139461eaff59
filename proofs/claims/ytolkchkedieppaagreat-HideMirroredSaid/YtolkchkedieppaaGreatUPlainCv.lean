/- Lay of package hide at sizes in range. -/
import Derived.Test.YtolkchkedieppaaGreatULayB
import Derived.Deep.DeepCutAuto
import Derived.Deep.CutBlock
import Derived.Test.YtolkchkedieppaaGreatURdA
import Derived.Deep.LoopGhost
import Derived.Test.YtolkchkedieppaaGreatUSortSq
import Derived.Deep.Slices
import Derived.Deep.SlicePairs
set_option linter.unusedVariables false
set_option linter.unusedSimpArgs false
namespace Go.Proofs.YtolkchkedieppaaGreat
open Go.RowKit
attribute [local go_sem ↓] Go.wp_at_zero Go.wp_at_succ
/-- squares as cells -/
def sqC (q : Sq) : List Value := [.int .i64 (q.x : Nat), .int .i64 q.y, .int .i64 (q.s : Nat)]
def sqL : List Sq → List Value
 | [] => []
 | q :: l => sqC q ++ sqL l
theorem sqL_app (a b : List Sq) : sqL (a ++ b) = sqL a ++ sqL b := by
 induction a with
 | nil => rfl
 | cons x a ih => simp [sqL, ih]
theorem infoS : (Tryz.prog.info? 47).map (fun i => (i.zero, i.size, i.bytes)) = some (some (.agg #[.int .i64 0, .int .i64 0, .int .i64 0]), 3, 24) := by kernel_rfl
theorem newS (w : World) (x : Sq) (t : TypeId) : ∀ j u, (sqC x)[j]? = some u → (w.alloc (.cells (sqC x).toArray t)).cell? ((⟨w.heap.size, 0, none⟩ : Addr).add j) = some u := fun j u hj => by
 have hadd : (⟨w.heap.size, 0, none⟩ : Addr).add j = ⟨w.heap.size, j, none⟩ := by unfold Addr.add; split <;> simp_all
 rw [hadd]
 simp [go_sem]
 exact hj
theorem oneS (x : Sq) : ∀ u ∈ sqC x, u.oneCell' = true := fun u hu => by
 simp [sqC] at hu
 rcases hu with rfl | rfl | rfl <;> rfl
theorem infoF : (Tryz.prog.info? 3).map (fun i => (i.zero, i.size, i.bytes)) = some (some (.int .i64 0), 1, 8) := by kernel_rfl
/-- what Lay keeps -/
structure LayM (w wr : World) (g W B : Nat) (F : Nat → Int) (vo : Value) (out : List Sq) : Prop where
 row : wr.rowIs g 3 W (ic F)
 out : wr.ownsRow B 47 3 vo out.length (sqL out)
 far : g < B
 lb : B ≤ wr.heap.size
 old : w.heap.size ≤ g
 below : Below w.heap.size w wr
section
variable {w wr : World} {g W B : Nat} {F : Nat → Int} {vo : Value} {out : List Sq}
theorem LayM.drawn {w' : World} (h : LayM w wr g W B F vo out) (hd : Drawn wr w') : LayM w w' g W B F vo out :=
 ⟨rowIs_below h.row (hd.below wr.heap.size) h.row.lt, own_kept h.out (hd.below _), h.far, Nat.le_trans h.lb (hd.below wr.heap.size).size, h.old, h.below.trans (hd.below _)⟩
theorem LayM.push {w5 : World} {v' : Value} {x : Sq} (h : LayM w wr g W B F vo out) (ob : Obj) (hgrow : (wr.alloc ob).grownBy w5 vo.ownBlock) (hown : w5.ownsRow B 47 3 v' (out.length + 1) (sqL out ++ sqC x)) :
  LayM w w5 g W B F v' (out ++ [x]) := by
 have hB : Below B wr w5 := ((Below.refl B wr).alloc h.lb ob).grown hgrow (by simp; have := h.lb; omega) (fun kk e => (h.out.lt kk e).1)
 refine ⟨rowIs_below h.row hB h.far, ?_, h.far, Nat.le_trans h.lb hB.size, h.old, h.below.trans (hB.mono (by have := h.old; have := h.far; omega))⟩
 rw [sqL_app, List.length_append]
 simp only [sqL, List.append_nil]
 exact hown
theorem LayM.put {w' : World} {F' : Nat → Int} (h : LayM w wr g W B F vo out) (hr : w'.rowIs g 3 W (ic F')) (hg : wr.grownBy w' (some g)) : LayM w w' g W B F' vo out := by
 refine ⟨hr, h.out.kept hg ?_, h.far, Nat.le_trans h.lb hg.size, h.old, h.below.trans ⟨hg.os, hg.tape, hg.output, hg.size, fun k hk => hg.block k (by have := h.below.size; omega) (fun e => by injection e with e; have := h.old; omega)⟩⟩
 rcases hv : vo.ownBlock with _ | k
 ·exact .inl rfl
 ·right
  intro e
  injection e with e
  have := (h.out.lt k hv).1
  have := h.far
  omega
end
theorem layF_take {W : Nat} {S : List Nat} {F0 : Nat → Int} {k : Nat} (h : k < S.length) {out : List Sq} {F : Nat → Int} (e : layF W (S.take k) F0 [] = some (out, F)) :
  layF W (S.take (k + 1)) F0 [] = if FitP W F (S.getD k 0) then some (out ++ [⟨minAt F (W - 1), F (minAt F (W - 1)), S.getD k 0⟩], putF F (minAt F (W - 1)) (S.getD k 0)) else none := by
 have e1 : S.take (k + 1) = S.take k ++ [S.getD k 0] := by rw [List.take_add_one]; simp [h]
 rw [e1, layF_app, e]
 rfl
theorem layF_none {W : Nat} {S : List Nat} {F0 : Nat → Int} : ∀ k, layF W (S.take k) F0 [] = none → layF W S F0 [] = none := fun k h => by
 have : ∀ (l m : List Nat) (F : Nat → Int) (out : List Sq), layF W l F out = none → layF W (l ++ m) F out = none := fun l => by
  induction l with
  | nil => intro m F out h; cases h
  | cons x l ih =>
   intro m F out h
   simp only [List.cons_append, layF] at h ⊢
   split
   ·rename_i q; rw [if_pos q] at h; exact ih m _ _ h
   ·rfl
 have h2 := this (S.take k) (S.drop k) F0 [] h
 rwa [List.take_append_drop] at h2
theorem getD_mem {S : List Nat} {k : Nat} (h : k < S.length) : S.getD k 0 ∈ S := by simp [h]
set_option maxHeartbeats 4000000 in
set_option maxRecDepth 100000 in
theorem lay_good (v : Value) (W : Nat) (S : List Nat) (w : World) (hv : Ints w v S.length (eF S)) (hW : 1 ≤ W) (hW2 : W ≤ 1000) (hS0 : 0 < S.length) (hS24 : S.length ≤ 24) (hS : ∀ s ∈ S, 1 ≤ s ∧ s ≤ 1000) :
  Calls Tryz.prog 15 #[.int .i64 (W : Nat), v] w fun e w' =>
   ((∃ out F, layF W S (fun _ => 0) [] = some (out, F) ∧ Lvl W F ∧ ∃ va vk, e = .returned (.tuple #[.slice va out.length vk, .int .i64 0]) ∧ w'.ownsRow w.heap.size 47 3 (.slice va out.length vk) out.length (sqL out)) ∨
    ((∀ out F, layF W S (fun _ => 0) [] = some (out, F) → ¬ Lvl W F) ∧ e = .returned (.tuple #[.slice none 0 0, .int .i64 5]))) ∧ Below w.heap.size w w' := by
 have HI := Lib.hid hv
 obtain ⟨sa, sb, so, sc, rfl, hs⟩ := hv
 have HS := Lib.hid hs
 have HSS := Lib.hid hS
 obtain ⟨i0, hinf, hz0, hz1, hz2⟩ := info_parts infoS
 have d1 : decide ((24 : Int) < ((S.length : Nat) : Int)) = false := by simp; omega
 have d1n : decide (24 < S.length) = false := by simp; omega
 have d2 : (((S.length : Nat) : Int) == 0) = false := by rw [beq_eq_false_iff_ne]; omega
 have d2n : (S.length == 0) = false := by rw [beq_eq_false_iff_ne]; omega
 have HNB : Hid ((false : Bool) = true ↔ ∃ i, i < S.length ∧ (eF S i < 1 ∨ 1000 < eF S i)) := Lib.hid ⟨fun q => Bool.noConfusion q, fun ⟨i, hi, q⟩ => by
  exfalso
  have := hS _ (getD_mem hi)
  unfold eF at q
  omega⟩
 have hmk := run_make_row' (P := Tryz.prog) 84 3 (.int .i64 0) 8 Tryz.underlying84 infoF rfl .i64 .i64 W (by omega) (by omega)
 clear hs hS
 go_enter Tryz.func15, Tryz.ntmps15
 go_wp2_with (first
  | (go_at_call 47; (with_reducible refine (lay_not _ _ (by omega)).mono ?_); rintro e w1 ⟨rfl, rfl⟩)
  | (go_at_call 48; (with_reducible refine (lay_cont _ S.length (eF S) false HNB.out _ HI.out (by omega)).mono ?_); rintro e w2 ⟨rfl, hd⟩; have HD := Lib.hid hd; clear hd))
 generalize hgw : w2.heap.size = g
 have hBW : w.heap.size ≤ g := by rw [← hgw]; exact (HD.out.below w.heap.size).size
 have L0 : Hid (LayM w (w2.alloc (.cells (madeCells #[.int .i64 0] W) 3)) g W (g + 1) (fun _ => 0) (.slice none 0 0) []) := Lib.hid (by
  rw [← hgw] at hBW ⊢
  exact ⟨World.rowIs_made w2 (.int .i64 0) W 3, World.ownsRow_nil _ _ _ _, by omega, by simp, hBW, (HD.out.below w.heap.size).alloc hBW _⟩)
 have LE0 : Hid (layF W (S.take 0) (fun _ => 0) [] = some ([], fun _ => 0)) := Lib.hid rfl
 have HS2 := Lib.hid (HS.out.drawn HD.out)
 go_loopw [8, 10, 11, 12, 35] (fun v8 v10 v11 v12 v35 wr => ∃ (k : Nat) (out : List Sq) (F : Nat → Int) (vo : Value), k ≤ S.length ∧ v35 = .int .i64 (k : Nat) ∧ vo = v8 ∧ Hid (out.length = k) ∧ Hid (layF W (S.take k) (fun _ => 0) [] = some (out, F)) ∧ Hid (∀ i, 0 ≤ F i ∧ F i ≤ 1000) ∧ Hid (LayM w wr g W (g + 1) F vo out)) (fun _ _ _ _ v35 _ => S.length - (intOf v35).toNat)
 case atStart => exact ⟨0, [], fun _ => 0, _, by omega, rfl, rfl, Lib.hid rfl, LE0, Lib.hid (fun _ => by simp), L0⟩
 case round =>
  clear L0 LE0 hmk
  obtain ⟨k, out, F, vo, hk, rfl, rfl, HOL, LE, FR, LM⟩ := hrel
  obtain ⟨va, vk, rfl⟩ := own_shape LM.out.out
  have hln : out.length ≤ 24 := by have := HOL.out; omega
  have HIF := Lib.hid (show Ints wr (.slice (some ⟨g, 0, none⟩) W W) W F from ⟨_, _, _, _, rfl, rowIs_sl LM.out.row⟩)
  by_cases h : k < S.length
  ·have e1 : decide ((k : Int) < ((S.length : Nat) : Int)) = true := by simpa using h
   have e1n : decide (k < S.length) = true := by simpa using h
   have hix := fun W' => ixI HS2.out k sc h W'
   have hc := (HS.out.mono LM.out.below (Nat.le_refl _)).cell k h
   simp only [ic, eF] at hc
   have hsr := HSS.out _ (getD_mem h)
   obtain ⟨s, hs⟩ : ∃ s, s = S.getD k 0 := ⟨_, rfl⟩
   rw [← hs] at hc hsr
   have HSK := Lib.hid hs
   clear hs
   go_upto_region 12 with (go_at_call 49; (with_reducible refine (fnext_any _ W F _ HIF.out hW hW2).mono ?_); rintro e w3 ⟨r, hrun, rfl, hd⟩; have HRUN := Lib.hid hrun; have LM := Lib.hid (LM.out.drawn hd); clear hrun hd)
   clear hix hc
   have hp := minAt_le F (W - 1)
   have hrl := HRUN.out.le
   have hfit := HRUN.out.fit (s := s)
   obtain ⟨p, hpe⟩ : ∃ p, p = minAt F (W - 1) := ⟨_, rfl⟩
   have hfr := FR.out p
   rw [← hpe] at hp hrl hfit ⊢
   have HPE := Lib.hid hpe
   have HFIT := Lib.hid hfit
   clear hfit hpe
   have hpW : p < W := by omega
   have ipx := fun W' => ixFl (rowIs_sl LM.out.row) p W hpW W'
   have cp := LM.out.row.cell (i := p) hpW
   simp only [ic, Nat.zero_add] at ipx cp
   have hwr : IntKind.i64.wrap (F p + (s : Int)) = F p + (s : Int) := by rw [IntKind.wrap_i64]; omega
   by_cases h1 : r < s
   ·have e2 : decide ((r : Int) < (s : Int)) = true := by simpa using h1
    have e2n : decide (r < s) = true := by simpa using h1
    have HNF : Hid (¬ FitP W F s) := Lib.hid (fun q => by have := (HFIT.out.1 q).1; omega)
    clear h1
    go_wp2_with fail
    go_ret2
    refine ⟨.inr ⟨fun o F' e' => ?_, rfl⟩, LM.out.below⟩
    have := layF_none (k + 1) (by rw [layF_take h LE.out, ← HSK.out, if_neg HNF.out])
    rw [this] at e'; cases e'
   ·have e2 : decide ((r : Int) < (s : Int)) = false := by simpa using h1
    have e2n : decide (r < s) = false := by simpa using h1
    by_cases h2 : 1000 < F p + (s : Int)
    ·have e3 : decide ((1000 : Int) < F p + (s : Int)) = true := by simpa using h2
     have HNF : Hid (¬ FitP W F s) := Lib.hid (fun q => by have := (HFIT.out.1 q).2; omega)
     clear h1 h2
     go_wp2_with fail
     go_ret2
     refine ⟨.inr ⟨fun o F' e' => ?_, rfl⟩, LM.out.below⟩
     have := layF_none (k + 1) (by rw [layF_take h LE.out, ← HSK.out, if_neg HNF.out])
     rw [this] at e'; cases e'
    ·have e3 : decide ((1000 : Int) < F p + (s : Int)) = false := by simpa using h2
     have HYF : Hid (FitP W F s) := Lib.hid (HFIT.out.2 ⟨by omega, by omega⟩)
     have hps : p + s ≤ W := by omega
     have HFB : Hid (∀ i, i < W → -1000 ≤ F i ∧ F i ≤ 1000) := Lib.hid (fun i _ => by have := FR.out i; omega)
     have LE2 : Hid (layF W (S.take (k + 1)) (fun _ => 0) [] = some (out ++ [⟨p, F p, s⟩], putF F p s)) := Lib.hid (by rw [layF_take h LE.out, ← HSK.out, if_pos HYF.out, ← HPE.out])
     have FR2 : Hid (∀ i, 0 ≤ putF F p s i ∧ putF F p s i ≤ 1000) := Lib.hid (layF_range W _ _ _ _ _ (fun i => by simp) LE2.out).1
     clear h1 h2
     have hlb := LM.out.lb
     go_wp2_with (first
      | (at_builtin; refine wpList_append_own_at _ rfl (.tmp 56) (.tmp 64) 23 rfl (g + 1) 47 i0 _ 3 24 Tryz.underlying23 hinf hz0 hz1 hz2 rfl (by decide) (.slice va out.length vk) out.length (sqL out) rfl (LM.out.out.alloc _) ⟨w3.heap.size, 0, none⟩ 1 1 (sqC ⟨p, F p, s⟩) rfl rfl (newS w3 ⟨p, F p, s⟩ _) (oneS ⟨p, F p, s⟩) (by unfold maxLen; omega) (by omega) (by simp; omega) ?_; intro v' w5 hown hgrow _ hbk; have LM := Lib.hid (LM.out.push (x := ⟨p, F p, s⟩) _ hgrow hown); obtain ⟨vb, vc, rfl⟩ := own_shape hown; clear hown hgrow hbk)
      | (go_at_call 50; (with_reducible refine (fput_any g W s p (s : Int) F _ LM.out.row hps hW2 HFB.out (by omega)).mono ?_); rintro e w6 ⟨rfl, hr, hgr⟩; have LM := Lib.hid (LM.out.put hr hgr); clear hr hgr))
     go_roundw
     case rel => exact ⟨k + 1, _, _, _, by omega, by go_num, rfl, Lib.hid (by simp; exact HOL.out), LE2, FR2, LM⟩
     case measure => simp [intOf]; omega
  ·have hke : k = S.length := by omega
   have e1 : decide ((k : Int) < ((S.length : Nat) : Int)) = false := by simp; omega
   have e1n : decide (k < S.length) = false := by simpa using h
   have LEE : Hid (layF W S (fun _ => 0) [] = some (out, F)) := Lib.hid (by have := LE.out; rw [hke, List.take_length] at this; exact this)
   have hlv := lvl_iff (F := F) hW
   clear hke h
   by_cases hl : Lvl W F
   ·have e2 : (F (minAt F (W - 1)) != maxTo F (W - 1)) = false := by have := hlv.2 hl; simpa using this
    have HLV := Lib.hid hl
    clear hl hlv
    go_wp2_with (first
     | (go_at_call 51; (with_reducible refine (fmin_any _ W F _ HIF.out hW hW2).mono ?_); rintro e w7 ⟨rfl, rfl⟩)
     | (go_at_call 52; (with_reducible refine (fmax_any _ W F _ HIF.out hW hW2).mono ?_); rintro e w7 ⟨rfl, rfl⟩))
    go_ret2
    exact ⟨.inl ⟨out, F, LEE.out, HLV.out, va, vk, rfl, own_base LM.out.out (by omega)⟩, LM.out.below⟩
   ·have e2 : (F (minAt F (W - 1)) != maxTo F (W - 1)) = true := by rw [bne_iff_ne]; exact fun e => hl (hlv.1 e)
    have HLV := Lib.hid hl
    clear hl hlv
    go_wp2_with (first
     | (go_at_call 51; (with_reducible refine (fmin_any _ W F _ HIF.out hW hW2).mono ?_); rintro e w7 ⟨rfl, rfl⟩)
     | (go_at_call 52; (with_reducible refine (fmax_any _ W F _ HIF.out hW hW2).mono ?_); rintro e w7 ⟨rfl, rfl⟩))
    go_ret2
    refine ⟨.inr ⟨fun o F' e' => ?_, rfl⟩, LM.out.below⟩
    rw [LEE.out] at e'
    injection e' with e'
    injection e' with e1' e2'
    rw [← e2']; exact HLV.out
end Go.Proofs.YtolkchkedieppaaGreat

/- same of the laws of hide, at equal lists of squares. -/
namespace Go.Proofs.YtolkchkedieppaaGreat
open Go.RowKit
attribute [local go_sem ↓] Go.wp_at_zero Go.wp_at_succ
theorem ixSqo (b o n c i : Nat) (hi : i < n) (W : World) :
  (Instr.indexAt 23 (.slice (some ⟨b, o, none⟩) n c) (.int .i64 (i : Int))).run Tryz.prog W = .ok (.pointer (some ⟨b, o + i * 3, none⟩)) W := by
 rw [run_indexAt_slice W _ _ _ _ _ _ sqs_s, if_pos ⟨by omega, by omega⟩, sqs_z]
 simp only [Result.andThen, Int.toNat_natCast]
 congr 3
 unfold Addr.add
 split
 ·rename_i h; simp [show i = 0 by omega]
 ·rfl
/-- a slice of squares, as read -/
structure SqV (w : World) (v : Value) (P : List Tr) : Prop where
 ex : ∃ a c, v = .slice a P.length c ∧ (0 < P.length → ∃ g o, a = some ⟨g, o, none⟩ ∧ TrR w g o P ∧ g < w.heap.size)
theorem SqV.mono {w w' : World} {B : Nat} {v : Value} {P : List Tr} (h : SqV w v P) (hb : Below B w w') (hB : w.heap.size ≤ B) : SqV w' v P := by
 obtain ⟨a, c, e, h1⟩ := h.ex
 refine ⟨a, c, e, fun h0 => ?_⟩
 obtain ⟨g, o, e2, h2, h3⟩ := h1 h0
 exact ⟨g, o, e2, h2.below hb (Nat.lt_of_lt_of_le h3 hB), Nat.lt_of_lt_of_le h3 hb.size⟩
theorem sqV_own {w : World} {base : Nat} {v : Value} {P : List Tr} (h : w.ownsRow base 47 3 v P.length (trL P)) : SqV w v P := by
 obtain ⟨a, c, rfl⟩ := own_shape h
 refine ⟨a, c, rfl, fun h0 => ?_⟩
 rcases h.2 with ⟨_, e⟩ | ⟨g, cap, cur, hv, hbg, hg, _⟩
 ·omega
 ·injection hv with e1 e2 e3
  subst e1; subst e3
  exact ⟨g, 0, rfl, trR_own h, (Array.getElem?_eq_some_iff.1 hg).1⟩
end Go.Proofs.YtolkchkedieppaaGreat

/- The arguments of the laws, opened: slices of squares. -/
namespace Go.Proofs.YtolkchkedieppaaGreat
open Go.ChangeShapes Go.WideShapes Go.ChangeAt Go.RowKit Go.Deep
/-- a slice of squares, as read, with its capacity -/
structure SqA (w : World) (v : Value) (S : List Tr) : Prop where
 ex : ∃ a c, v = .slice a S.length c ∧ S.length ≤ c ∧ c ≤ 9223372036854775807 ∧ (a = none → c = 0) ∧ (0 < S.length → ∃ g o, a = some ⟨g, o, none⟩ ∧ TrR w g o S ∧ g < w.heap.size)
theorem sqStruct : ∃ f0 f1 f2, Tryz.prog.underlying 47 = some (.struct #[f0, f1, f2]) ∧ Tryz.prog.cellsOf 47 = 3 ∧ f0.offset = 0 ∧ f1.offset = 1 ∧ f2.offset = 2 ∧ Tryz.prog.underlying f0.type = some (.int .i64) ∧ Tryz.prog.underlying f1.type = some (.int .i64) ∧ Tryz.prog.underlying f2.type = some (.int .i64) ∧ Tryz.prog.cellsOf f0.type = 1 ∧ Tryz.prog.cellsOf f1.type = 1 ∧ Tryz.prog.cellsOf f2.type = 1 :=
 ⟨_, _, _, Tryz.underlying47, by kernel_rfl, by kernel_rfl, by kernel_rfl, by kernel_rfl, by kernel_rfl, by kernel_rfl, by kernel_rfl, by kernel_rfl, by kernel_rfl, by kernel_rfl⟩
section
variable {H : Type} {enc : TypeId × Value → H}
set_option maxRecDepth 100000 in
theorem squares_of_trod {W : World} {base : Nat} {v : Value} {d : DataW H} {ps : List MemPlace} (hv : Value.okWide Tryz.prog W .any base 23 v) (h : DataW.Trod enc Tryz.prog W 0 (fun _ => true) true 23 v d ps) :
  ∃ S, SqA W v S := by
 obtain ⟨a0, len, cap, rfl⟩ := okWide_slice Tryz.underlying23 hv
 obtain ⟨fuel, hf⟩ := h
 obtain ⟨f0, f1, f2, he, ce, o0, o1, o2, t0, t1, t2, c0, c1, c2⟩ := sqStruct
 rcases open_slice Tryz.underlying23 hf with ⟨hcs, _⟩ | ⟨a, len', cap', m, n, D, Pl, hcs, _, hl, hm, hmm, _, hx⟩
 ·simp [Value.cells] at hcs
  obtain ⟨rfl, rfl, rfl⟩ := hcs
  exact ⟨[], _, _, rfl, Nat.le_refl _, Nat.zero_le _, fun _ => rfl, fun q => absurd q (by simp)⟩
 ·simp [Value.cells] at hcs
  obtain ⟨rfl, rfl, rfl⟩ := hcs
  simp only [if_true] at hmm
  unfold maxLen at hm
  have each : ∀ i, i < len → ∃ q : Tr, W.cell? (a.add (i * 3)) = some (.int .i64 q.a) ∧ W.cell? (a.add (i * 3 + 1)) = some (.int .i64 q.b) ∧ W.cell? (a.add (i * 3 + 2)) = some (.int .i64 q.c) := by
   intro i hi
   obtain ⟨cs', h1, h2⟩ := hx i (by omega)
   rw [ce] at h1
   obtain ⟨_, hlen, hcell⟩ := World.cells?_some h1
   obtain ⟨xs, k, hk, hxy, _, hxl, hf⟩ := DataW.trod_struct he h2
   match xs, hxl, cs', hlen with
   | [y0, y1, y2], _, [v0, v1, v2], _ =>
    have g0 := hf 0 f0 rfl
    have g1 := hf 1 f1 rfl
    have g2 := hf 2 f2 rfl
    simp [o0, o1, o2, c0, c1, c2] at g0 g1 g2
    have e0 := hcell 0 (by omega)
    have e1 := hcell 1 (by omega)
    have e2 := hcell 2 (by omega)
    rw [Go.Deep.add_add] at e0 e1 e2
    obtain ⟨n0, q0, _, _⟩ := DataW.trod_int t0 g0
    obtain ⟨n1, q1, _, _⟩ := DataW.trod_int t1 g1
    obtain ⟨n2, q2, _, _⟩ := DataW.trod_int t2 g2
    simp at q0 q1 q2
    subst q0 q1 q2
    exact ⟨⟨n0, n1, n2⟩, by simpa using e0, by simpa using e1, by simpa using e2⟩
  obtain ⟨q, hq⟩ := choose_lt each
  refine ⟨(List.range len).map q, some a, cap, by simp, by simpa using hl, by omega, fun e => (by cases e), fun h0 => ?_⟩
  have h0 : 0 < len := by simpa using h0
  have e := plain_addr (a := a) (u := .int .i64 (q 0).a) (by simpa using (hq 0 h0).1)
  rw [e]
  have hq2 := hq
  rw [e] at hq2
  simp only [addr_add] at hq2
  have hgt : ∀ i, i < len → ((List.range len).map q).getD i default = q i := fun i hi => by simp [hi]
  refine ⟨a.block, a.off, rfl, ⟨fun i hi => ?_, fun i hi => ?_, fun i hi => ?_⟩, World.block_lt_of_cell? W ⟨a.block, a.off + 0 * 3, none⟩ (hq2 0 h0).1⟩
  ·have hi : i < len := by simpa using hi
   rw [hgt i hi]; exact (hq2 i hi).1
  ·have hi : i < len := by simpa using hi
   rw [hgt i hi]; exact (hq2 i hi).2.1
  ·have hi : i < len := by simpa using hi
   rw [hgt i hi]; exact (hq2 i hi).2.2
end
end Go.Proofs.YtolkchkedieppaaGreat

/- A cut covers its rectangle, plainly: squares that do not overlap, counted cell by cell. -/
namespace Go.Proofs.YtolkchkedieppaaGreat
/-- a cell lies in a square -/
def inT (p : Tr) (x y : Int) : Prop := p.a ≤ x ∧ x < p.a + p.c ∧ p.b ≤ y ∧ y < p.b + p.c
instance (p : Tr) (x y : Int) : Decidable (inT p x y) := by unfold inT; infer_instance
def sumZ (f : Nat → Int) : Nat → Int
 | 0 => 0
 | n + 1 => sumZ f n + f n
theorem sumZ_add (f g : Nat → Int) : ∀ n, sumZ (fun i => f i + g i) n = sumZ f n + sumZ g n
 | 0 => rfl
 | n + 1 => by simp only [sumZ, sumZ_add f g n]; omega
theorem sumZ_mul (f : Nat → Int) (c : Int) : ∀ n, sumZ (fun i => f i * c) n = sumZ f n * c
 | 0 => by simp [sumZ]
 | n + 1 => by simp only [sumZ, sumZ_mul f c n, Int.add_mul]
theorem sumZ_zero : ∀ n, sumZ (fun _ => 0) n = 0
 | 0 => rfl
 | n + 1 => by simp [sumZ, sumZ_zero n]
theorem sumZ_congr {f g : Nat → Int} : ∀ {n : Nat}, (∀ i, i < n → f i = g i) → sumZ f n = sumZ g n
 | 0, _ => rfl
 | n + 1, h => by simp only [sumZ]; rw [sumZ_congr (fun i hi => h i (by omega)), h n (by omega)]
theorem sumZ_le {f g : Nat → Int} : ∀ {n : Nat}, (∀ i, i < n → f i ≤ g i) → sumZ f n ≤ sumZ g n
 | 0, _ => Int.le_refl _
 | n + 1, h => by
  simp only [sumZ]
  have := sumZ_le (fun i (hi : i < n) => h i (by omega))
  have := h n (by omega)
  omega
theorem sumZ_const (c : Int) : ∀ n : Nat, sumZ (fun _ => c) n = (n : Int) * c
 | 0 => by simp [sumZ]
 | n + 1 => by simp only [sumZ, sumZ_const c n]; rw [show ((n + 1 : Nat) : Int) = (n : Int) + 1 by omega, Int.add_mul, Int.one_mul]
/-- a sum that reaches its bound reaches it everywhere -/
theorem sumZ_tight {f g : Nat → Int} : ∀ {n : Nat}, (∀ i, i < n → f i ≤ g i) → sumZ g n ≤ sumZ f n → ∀ i, i < n → f i = g i
 | 0, _, _, i, hi => by omega
 | n + 1, h, he, i, hi => by
  simp only [sumZ] at he
  have h1 := sumZ_le (fun i (hi : i < n) => h i (by omega))
  have h2 := h n (by omega)
  by_cases e : i = n
  ·rw [e]; omega
  ·exact sumZ_tight (n := n) (fun i hi => h i (by omega)) (by omega) i (by omega)
/-- how many places of 0 .. n - 1 lie in a .. a + c - 1 -/
theorem sumZ_run (a c : Nat) : ∀ n, sumZ (fun i => if (a : Int) ≤ (i : Int) ∧ (i : Int) < (a : Int) + (c : Int) then 1 else 0) n = ((min (n - a) c : Nat) : Int)
 | 0 => by simp [sumZ]
 | n + 1 => by
  simp only [sumZ, sumZ_run a c n, Nat.min_def]
  split <;> split <;> split <;> omega
/-- how many of the first k squares cover a cell -/
def cvN (S : List Tr) (x y : Int) : Nat → Int
 | 0 => 0
 | k + 1 => cvN S x y k + if inT (S.getD k default) x y then 1 else 0
theorem cvN_nn (S : List Tr) (x y : Int) : ∀ k, 0 ≤ cvN S x y k
 | 0 => by simp [cvN]
 | k + 1 => by have := cvN_nn S x y k; simp only [cvN]; split <;> omega
theorem cvN_ex {S : List Tr} {x y : Int} : ∀ {k : Nat}, 0 < cvN S x y k → ∃ i, i < k ∧ inT (S.getD i default) x y
 | 0, h => by simp [cvN] at h
 | k + 1, h => by
  simp only [cvN] at h
  by_cases e : inT (S.getD k default) x y
  ·exact ⟨k, by omega, e⟩
  ·rw [if_neg e] at h
   obtain ⟨i, hi, q⟩ := cvN_ex (S := S) (x := x) (y := y) (k := k) (by omega)
   exact ⟨i, by omega, q⟩
theorem apT_in {p q : Tr} {x y : Int} (h : ApT p q) (h1 : inT p x y) (h2 : inT q x y) : False := by
 unfold ApT at h
 unfold inT at h1 h2
 omega
theorem cvN_le {S : List Tr} (hap : ∀ i j, j < i → i < S.length → ApT (S.getD i default) (S.getD j default)) (x y : Int) : ∀ k, k ≤ S.length → cvN S x y k ≤ 1
 | 0, _ => by simp [cvN]
 | k + 1, hk => by
  have ih := cvN_le hap x y k (by omega)
  simp only [cvN]
  by_cases e : inT (S.getD k default) x y
  ·rw [if_pos e]
   have : ¬ 0 < cvN S x y k := fun q => by
    obtain ⟨i, hi, h1⟩ := cvN_ex q
    exact apT_in (hap k i hi (by omega)) e h1
   have := cvN_nn S x y k
   omega
  ·rw [if_neg e]; omega
/-- a square inside a rectangle, counted -/
theorem inT_count {p : Tr} {W H : Nat} (h0 : RgT p) (hw : p.a + p.c ≤ (W : Int)) (hh : p.b + p.c ≤ (H : Int)) : sumZ (fun x => sumZ (fun y => if inT p (x : Int) (y : Int) then 1 else 0) H) W = p.c * p.c := by
 obtain ⟨A, hA⟩ := Int.eq_ofNat_of_zero_le h0.a0
 obtain ⟨B, hB⟩ := Int.eq_ofNat_of_zero_le h0.b0
 obtain ⟨C, hC⟩ := Int.eq_ofNat_of_zero_le (show 0 ≤ p.c by have := h0.c0; omega)
 have hi : ∀ x y : Nat, inT p (x : Int) (y : Int) ↔ ((A : Int) ≤ (x : Int) ∧ (x : Int) < (A : Int) + (C : Int)) ∧ ((B : Int) ≤ (y : Int) ∧ (y : Int) < (B : Int) + (C : Int)) := fun x y => by
  unfold inT
  omega
 have e : ∀ x : Nat, sumZ (fun y => if inT p (x : Int) (y : Int) then 1 else 0) H = (if (A : Int) ≤ (x : Int) ∧ (x : Int) < (A : Int) + (C : Int) then 1 else 0) * (C : Int) := fun x => by
  by_cases hx : (A : Int) ≤ (x : Int) ∧ (x : Int) < (A : Int) + (C : Int)
  ·rw [if_pos hx, Int.one_mul]
   have : ∀ y, y < H → (if inT p (x : Int) (y : Int) then (1 : Int) else 0) = if (B : Int) ≤ (y : Int) ∧ (y : Int) < (B : Int) + (C : Int) then 1 else 0 := fun y _ => by
    by_cases q : (B : Int) ≤ (y : Int) ∧ (y : Int) < (B : Int) + (C : Int)
    ·rw [if_pos q, if_pos ((hi x y).2 ⟨hx, q⟩)]
    ·rw [if_neg q, if_neg (fun r => q ((hi x y).1 r).2)]
   rw [sumZ_congr this, sumZ_run]
   omega
  ·rw [if_neg hx, Int.zero_mul]
   have : ∀ y, y < H → (if inT p (x : Int) (y : Int) then (1 : Int) else 0) = 0 := fun y _ => by
    rw [if_neg (fun r => hx ((hi x y).1 r).1)]
   rw [sumZ_congr this, sumZ_zero]
 rw [sumZ_congr (fun x _ => e x), sumZ_mul, sumZ_run, hC]
 congr 1
 omega
theorem cvN_sum {S : List Tr} {W H : Nat} (hr : ∀ i, i < S.length → RgT (S.getD i default)) (hw : ∀ i, i < S.length → (S.getD i default).a + (S.getD i default).c ≤ (W : Int)) (hh : ∀ i, i < S.length → (S.getD i default).b + (S.getD i default).c ≤ (H : Int)) :
  ∀ k, k ≤ S.length → sumZ (fun x => sumZ (fun y => cvN S (x : Int) (y : Int) k) H) W = arT S k
 | 0, _ => by simp only [cvN, sumZ_zero, arT]
 | k + 1, hk => by
  simp only [cvN, arT]
  have e : ∀ x : Nat, sumZ (fun y => cvN S (x : Int) (y : Int) k + if inT (S.getD k default) (x : Int) (y : Int) then 1 else 0) H = sumZ (fun y => cvN S (x : Int) (y : Int) k) H + sumZ (fun y => if inT (S.getD k default) (x : Int) (y : Int) then 1 else 0) H := fun x => sumZ_add _ _ H
  rw [sumZ_congr (fun x _ => e x), sumZ_add, cvN_sum hr hw hh k (by omega), inT_count (hr k (by omega)) (hw k (by omega)) (hh k (by omega))]
/-- the measures bound the squares -/
theorem wdT_ge (S : List Tr) : ∀ k i, i < k → (S.getD i default).a + (S.getD i default).c ≤ wdT S k
 | 0, i, h => by omega
 | k + 1, i, h => by
  simp only [wdT]
  by_cases e : i = k
  ·subst e; split <;> omega
  ·have := wdT_ge S k i (by omega)
   split <;> omega
theorem htT_ge (S : List Tr) : ∀ k i, i < k → (S.getD i default).b + (S.getD i default).c ≤ htT S k
 | 0, i, h => by omega
 | k + 1, i, h => by
  simp only [htT]
  by_cases e : i = k
  ·subst e; split <;> omega
  ·have := htT_ge S k i (by omega)
   split <;> omega
/-- every cell of the rectangle is covered -/
theorem CutOK.covers {S : List Tr} (h : CutOK S) {x y : Int} (hx0 : 0 ≤ x) (hx : x < wdT S S.length) (hy0 : 0 ≤ y) (hy : y < htT S S.length) : ∃ i, i < S.length ∧ inT (S.getD i default) x y := by
 have hm := meas_bound h.rg S.length (Nat.le_refl _)
 obtain ⟨W, hW⟩ := Int.eq_ofNat_of_zero_le hm.1
 obtain ⟨H, hH⟩ := Int.eq_ofNat_of_zero_le hm.2.2.1
 obtain ⟨X, rfl⟩ := Int.eq_ofNat_of_zero_le hx0
 obtain ⟨Y, rfl⟩ := Int.eq_ofNat_of_zero_le hy0
 have hs := cvN_sum (W := W) (H := H) h.rg (fun i hi => by rw [← hW]; exact wdT_ge S _ i hi) (fun i hi => by rw [← hH]; exact htT_ge S _ i hi) S.length (Nat.le_refl _)
 have hle := fun x y => cvN_le h.ap x y S.length (Nat.le_refl _)
 have h1 : ∀ x, x < W → sumZ (fun y => cvN S (x : Int) (y : Int) S.length) H ≤ (H : Int) := fun x _ => by
  have := sumZ_le (n := H) (f := fun y => cvN S (x : Int) (y : Int) S.length) (g := fun _ => 1) (fun y _ => hle _ _)
  rw [sumZ_const] at this
  omega
 have h2 := sumZ_tight h1 (by rw [sumZ_const, hs, h.ar, hW, hH]; exact Int.le_refl _) X (by omega)
 have h3 := sumZ_tight (n := H) (f := fun y => cvN S (X : Int) (y : Int) S.length) (g := fun _ => 1) (fun y _ => hle _ _) (by rw [sumZ_const, h2]; omega) Y (by omega)
 exact cvN_ex (k := S.length) (by omega)
end Go.Proofs.YtolkchkedieppaaGreat
