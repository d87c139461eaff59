/- Lay of package hide at sizes in range. -/
import Derived.Test.YtolkchkedieppaaGreatVLayB
import Derived.Deep.DeepCutAuto
import Derived.Deep.CutBlock
import Derived.Shelf.SlSortCmp.NoneTotal
import Derived.Ground.SlsfProg
import Derived.Test.YtolkchkedieppaaGreatProg
import Derived.Test.YtolkchkedieppaaGreatVOwnI
import Derived.Lib.SliceRun
set_option linter.unusedVariables false
set_option linter.unusedSimpArgs false
namespace Go.Proofs.YtolkchkedieppaaGreat
open Go.RowKit
attribute [local go_sem ↓] Go.wp_at_zero Go.wp_at_succ
/-- squares as cells -/
def sqC (q : Sq) : List Value := [.int .i64 (q.x : Nat), .int .i64 q.y, .int .i64 (q.s : Nat)]
def sqL : List Sq → List Value
 | [] => []
 | q :: l => sqC q ++ sqL l
theorem sqL_app (a b : List Sq) : sqL (a ++ b) = sqL a ++ sqL b := by
 induction a with
 | nil => rfl
 | cons x a ih => simp [sqL, ih]
theorem infoS : (Tryz.prog.info? 47).map (fun i => (i.zero, i.size, i.bytes)) = some (some (.agg #[.int .i64 0, .int .i64 0, .int .i64 0]), 3, 24) := by kernel_rfl
theorem newS (w : World) (x : Sq) (t : TypeId) : ∀ j u, (sqC x)[j]? = some u → (w.alloc (.cells (sqC x).toArray t)).cell? ((⟨w.heap.size, 0, none⟩ : Addr).add j) = some u := fun j u hj => by
 have hadd : (⟨w.heap.size, 0, none⟩ : Addr).add j = ⟨w.heap.size, j, none⟩ := by unfold Addr.add; split <;> simp_all
 rw [hadd]
 simp [go_sem]
 exact hj
theorem oneS (x : Sq) : ∀ u ∈ sqC x, u.oneCell' = true := fun u hu => by
 simp [sqC] at hu
 rcases hu with rfl | rfl | rfl <;> rfl
theorem infoF : (Tryz.prog.info? 3).map (fun i => (i.zero, i.size, i.bytes)) = some (some (.int .i64 0), 1, 8) := by kernel_rfl
/-- what Lay keeps -/
structure LayM (w wr : World) (g W B : Nat) (F : Nat → Int) (vo : Value) (out : List Sq) : Prop where
 row : wr.rowIs g 3 W (ic F)
 out : wr.ownsRow B 47 3 vo out.length (sqL out)
 far : g < B
 lb : B ≤ wr.heap.size
 old : w.heap.size ≤ g
 below : Below w.heap.size w wr
section
variable {w wr : World} {g W B : Nat} {F : Nat → Int} {vo : Value} {out : List Sq}
theorem LayM.drawn {w' : World} (h : LayM w wr g W B F vo out) (hd : Drawn wr w') : LayM w w' g W B F vo out :=
 ⟨rowIs_below h.row (hd.below wr.heap.size) h.row.lt, own_kept h.out (hd.below _), h.far, Nat.le_trans h.lb (hd.below wr.heap.size).size, h.old, h.below.trans (hd.below _)⟩
theorem LayM.push {w5 : World} {v' : Value} {x : Sq} (h : LayM w wr g W B F vo out) (ob : Obj) (hgrow : (wr.alloc ob).grownBy w5 vo.ownBlock) (hown : w5.ownsRow B 47 3 v' (out.length + 1) (sqL out ++ sqC x)) :
  LayM w w5 g W B F v' (out ++ [x]) := by
 have hB : Below B wr w5 := ((Below.refl B wr).alloc h.lb ob).grown hgrow (by simp; have := h.lb; omega) (fun kk e => (h.out.lt kk e).1)
 refine ⟨rowIs_below h.row hB h.far, ?_, h.far, Nat.le_trans h.lb hB.size, h.old, h.below.trans (hB.mono (by have := h.old; have := h.far; omega))⟩
 rw [sqL_app, List.length_append]
 simp only [sqL, List.append_nil]
 exact hown
theorem LayM.put {w' : World} {F' : Nat → Int} (h : LayM w wr g W B F vo out) (hr : w'.rowIs g 3 W (ic F')) (hg : wr.grownBy w' (some g)) : LayM w w' g W B F' vo out := by
 refine ⟨hr, h.out.kept hg ?_, h.far, Nat.le_trans h.lb hg.size, h.old, h.below.trans ⟨hg.os, hg.tape, hg.output, hg.size, fun k hk => hg.block k (by have := h.below.size; omega) (fun e => by injection e with e; have := h.old; omega)⟩⟩
 rcases hv : vo.ownBlock with _ | k
 ·exact .inl rfl
 ·right
  intro e
  injection e with e
  have := (h.out.lt k hv).1
  have := h.far
  omega
end
theorem layF_take {W : Nat} {S : List Nat} {F0 : Nat → Int} {k : Nat} (h : k < S.length) {out : List Sq} {F : Nat → Int} (e : layF W (S.take k) F0 [] = some (out, F)) :
  layF W (S.take (k + 1)) F0 [] = if FitP W F (S.getD k 0) then some (out ++ [⟨minAt F (W - 1), F (minAt F (W - 1)), S.getD k 0⟩], putF F (minAt F (W - 1)) (S.getD k 0)) else none := by
 have e1 : S.take (k + 1) = S.take k ++ [S.getD k 0] := by rw [List.take_add_one]; simp [h]
 rw [e1, layF_app, e]
 rfl
theorem layF_none {W : Nat} {S : List Nat} {F0 : Nat → Int} : ∀ k, layF W (S.take k) F0 [] = none → layF W S F0 [] = none := fun k h => by
 have : ∀ (l m : List Nat) (F : Nat → Int) (out : List Sq), layF W l F out = none → layF W (l ++ m) F out = none := fun l => by
  induction l with
  | nil => intro m F out h; cases h
  | cons x l ih =>
   intro m F out h
   simp only [List.cons_append, layF] at h ⊢
   split
   ·rename_i q; rw [if_pos q] at h; exact ih m _ _ h
   ·rfl
 have h2 := this (S.take k) (S.drop k) F0 [] h
 rwa [List.take_append_drop] at h2
theorem getD_mem {S : List Nat} {k : Nat} (h : k < S.length) : S.getD k 0 ∈ S := by simp [h]
set_option maxHeartbeats 4000000 in
set_option maxRecDepth 100000 in
theorem lay_good (v : Value) (W : Nat) (S : List Nat) (w : World) (hv : Ints w v S.length (eF S)) (hW : 1 ≤ W) (hW2 : W ≤ 1000) (hS0 : 0 < S.length) (hS24 : S.length ≤ 24) (hS : ∀ s ∈ S, 1 ≤ s ∧ s ≤ 1000) :
  Calls Tryz.prog 15 #[.int .i64 (W : Nat), v] w fun e w' =>
   ((∃ out F, layF W S (fun _ => 0) [] = some (out, F) ∧ Lvl W F ∧ ∃ va vk, e = .returned (.tuple #[.slice va out.length vk, .int .i64 0]) ∧ w'.ownsRow w.heap.size 47 3 (.slice va out.length vk) out.length (sqL out)) ∨
    ((∀ out F, layF W S (fun _ => 0) [] = some (out, F) → ¬ Lvl W F) ∧ e = .returned (.tuple #[.slice none 0 0, .int .i64 5]))) ∧ Below w.heap.size w w' := by
 have HI := Lib.hid hv
 obtain ⟨sa, sb, so, sc, rfl, hs⟩ := hv
 have HS := Lib.hid hs
 have HSS := Lib.hid hS
 obtain ⟨i0, hinf, hz0, hz1, hz2⟩ := info_parts infoS
 have d1 : decide ((24 : Int) < ((S.length : Nat) : Int)) = false := by simp; omega
 have d1n : decide (24 < S.length) = false := by simp; omega
 have d2 : (((S.length : Nat) : Int) == 0) = false := by rw [beq_eq_false_iff_ne]; omega
 have d2n : (S.length == 0) = false := by rw [beq_eq_false_iff_ne]; omega
 have HNB : Hid ((false : Bool) = true ↔ ∃ i, i < S.length ∧ (eF S i < 1 ∨ 1000 < eF S i)) := Lib.hid ⟨fun q => Bool.noConfusion q, fun ⟨i, hi, q⟩ => by
  exfalso
  have := hS _ (getD_mem hi)
  unfold eF at q
  omega⟩
 have hmk := run_make_row' (P := Tryz.prog) 84 3 (.int .i64 0) 8 Tryz.underlying84 infoF rfl .i64 .i64 W (by omega) (by omega)
 clear hs hS
 go_enter Tryz.func15, Tryz.ntmps15
 go_wp2_with (first
  | (go_at_call 47; (with_reducible refine (lay_not _ _ (by omega)).mono ?_); rintro e w1 ⟨rfl, rfl⟩)
  | (go_at_call 48; (with_reducible refine (lay_cont _ S.length (eF S) false HNB.out _ HI.out (by omega)).mono ?_); rintro e w2 ⟨rfl, hd⟩; have HD := Lib.hid hd; clear hd))
 generalize hgw : w2.heap.size = g
 have hBW : w.heap.size ≤ g := by rw [← hgw]; exact (HD.out.below w.heap.size).size
 have L0 : Hid (LayM w (w2.alloc (.cells (madeCells #[.int .i64 0] W) 3)) g W (g + 1) (fun _ => 0) (.slice none 0 0) []) := Lib.hid (by
  rw [← hgw] at hBW ⊢
  exact ⟨World.rowIs_made w2 (.int .i64 0) W 3, World.ownsRow_nil _ _ _ _, by omega, by simp, hBW, (HD.out.below w.heap.size).alloc hBW _⟩)
 have LE0 : Hid (layF W (S.take 0) (fun _ => 0) [] = some ([], fun _ => 0)) := Lib.hid rfl
 have HS2 := Lib.hid (HS.out.drawn HD.out)
 go_loopw [8, 10, 11, 12, 35] (fun v8 v10 v11 v12 v35 wr => ∃ (k : Nat) (out : List Sq) (F : Nat → Int) (vo : Value), k ≤ S.length ∧ v35 = .int .i64 (k : Nat) ∧ vo = v8 ∧ Hid (out.length = k) ∧ Hid (layF W (S.take k) (fun _ => 0) [] = some (out, F)) ∧ Hid (∀ i, 0 ≤ F i ∧ F i ≤ 1000) ∧ Hid (LayM w wr g W (g + 1) F vo out)) (fun _ _ _ _ v35 _ => S.length - (intOf v35).toNat)
 case atStart => exact ⟨0, [], fun _ => 0, _, by omega, rfl, rfl, Lib.hid rfl, LE0, Lib.hid (fun _ => by simp), L0⟩
 case round =>
  clear L0 LE0 hmk
  obtain ⟨k, out, F, vo, hk, rfl, rfl, HOL, LE, FR, LM⟩ := hrel
  obtain ⟨va, vk, rfl⟩ := own_shape LM.out.out
  have hln : out.length ≤ 24 := by have := HOL.out; omega
  have HIF := Lib.hid (show Ints wr (.slice (some ⟨g, 0, none⟩) W W) W F from ⟨_, _, _, _, rfl, rowIs_sl LM.out.row⟩)
  by_cases h : k < S.length
  ·have e1 : decide ((k : Int) < ((S.length : Nat) : Int)) = true := by simpa using h
   have e1n : decide (k < S.length) = true := by simpa using h
   have hix := fun W' => ixI HS2.out k sc h W'
   have hc := (HS.out.mono LM.out.below (Nat.le_refl _)).cell k h
   simp only [ic, eF] at hc
   have hsr := HSS.out _ (getD_mem h)
   obtain ⟨s, hs⟩ : ∃ s, s = S.getD k 0 := ⟨_, rfl⟩
   rw [← hs] at hc hsr
   have HSK := Lib.hid hs
   clear hs
   go_upto_region 12 with (go_at_call 49; (with_reducible refine (fnext_any _ W F _ HIF.out hW hW2).mono ?_); rintro e w3 ⟨r, hrun, rfl, hd⟩; have HRUN := Lib.hid hrun; have LM := Lib.hid (LM.out.drawn hd); clear hrun hd)
   clear hix hc
   have hp := minAt_le F (W - 1)
   have hrl := HRUN.out.le
   have hfit := HRUN.out.fit (s := s)
   obtain ⟨p, hpe⟩ : ∃ p, p = minAt F (W - 1) := ⟨_, rfl⟩
   have hfr := FR.out p
   rw [← hpe] at hp hrl hfit ⊢
   have HPE := Lib.hid hpe
   have HFIT := Lib.hid hfit
   clear hfit hpe
   have hpW : p < W := by omega
   have ipx := fun W' => ixFl (rowIs_sl LM.out.row) p W hpW W'
   have cp := LM.out.row.cell (i := p) hpW
   simp only [ic, Nat.zero_add] at ipx cp
   have hwr : IntKind.i64.wrap (F p + (s : Int)) = F p + (s : Int) := by rw [IntKind.wrap_i64]; omega
   by_cases h1 : r < s
   ·have e2 : decide ((r : Int) < (s : Int)) = true := by simpa using h1
    have e2n : decide (r < s) = true := by simpa using h1
    have HNF : Hid (¬ FitP W F s) := Lib.hid (fun q => by have := (HFIT.out.1 q).1; omega)
    clear h1
    go_wp2_with fail
    go_ret2
    refine ⟨.inr ⟨fun o F' e' => ?_, rfl⟩, LM.out.below⟩
    have := layF_none (k + 1) (by rw [layF_take h LE.out, ← HSK.out, if_neg HNF.out])
    rw [this] at e'; cases e'
   ·have e2 : decide ((r : Int) < (s : Int)) = false := by simpa using h1
    have e2n : decide (r < s) = false := by simpa using h1
    by_cases h2 : 1000 < F p + (s : Int)
    ·have e3 : decide ((1000 : Int) < F p + (s : Int)) = true := by simpa using h2
     have HNF : Hid (¬ FitP W F s) := Lib.hid (fun q => by have := (HFIT.out.1 q).2; omega)
     clear h1 h2
     go_wp2_with fail
     go_ret2
     refine ⟨.inr ⟨fun o F' e' => ?_, rfl⟩, LM.out.below⟩
     have := layF_none (k + 1) (by rw [layF_take h LE.out, ← HSK.out, if_neg HNF.out])
     rw [this] at e'; cases e'
    ·have e3 : decide ((1000 : Int) < F p + (s : Int)) = false := by simpa using h2
     have HYF : Hid (FitP W F s) := Lib.hid (HFIT.out.2 ⟨by omega, by omega⟩)
     have hps : p + s ≤ W := by omega
     have HFB : Hid (∀ i, i < W → -1000 ≤ F i ∧ F i ≤ 1000) := Lib.hid (fun i _ => by have := FR.out i; omega)
     have LE2 : Hid (layF W (S.take (k + 1)) (fun _ => 0) [] = some (out ++ [⟨p, F p, s⟩], putF F p s)) := Lib.hid (by rw [layF_take h LE.out, ← HSK.out, if_pos HYF.out, ← HPE.out])
     have FR2 : Hid (∀ i, 0 ≤ putF F p s i ∧ putF F p s i ≤ 1000) := Lib.hid (layF_range W _ _ _ _ _ (fun i => by simp) LE2.out).1
     clear h1 h2
     have hlb := LM.out.lb
     go_wp2_with (first
      | (at_builtin; refine wpList_append_own_at _ rfl (.tmp 56) (.tmp 64) 23 rfl (g + 1) 47 i0 _ 3 24 Tryz.underlying23 hinf hz0 hz1 hz2 rfl (by decide) (.slice va out.length vk) out.length (sqL out) rfl (LM.out.out.alloc _) ⟨w3.heap.size, 0, none⟩ 1 1 (sqC ⟨p, F p, s⟩) rfl rfl (newS w3 ⟨p, F p, s⟩ _) (oneS ⟨p, F p, s⟩) (by unfold maxLen; omega) (by omega) (by simp; omega) ?_; intro v' w5 hown hgrow _ hbk; have LM := Lib.hid (LM.out.push (x := ⟨p, F p, s⟩) _ hgrow hown); obtain ⟨vb, vc, rfl⟩ := own_shape hown; clear hown hgrow hbk)
      | (go_at_call 50; (with_reducible refine (fput_any g W s p (s : Int) F _ LM.out.row hps hW2 HFB.out (by omega)).mono ?_); rintro e w6 ⟨rfl, hr, hgr⟩; have LM := Lib.hid (LM.out.put hr hgr); clear hr hgr))
     go_roundw
     case rel => exact ⟨k + 1, _, _, _, by omega, by go_num, rfl, Lib.hid (by simp; exact HOL.out), LE2, FR2, LM⟩
     case measure => simp [intOf]; omega
  ·have hke : k = S.length := by omega
   have e1 : decide ((k : Int) < ((S.length : Nat) : Int)) = false := by simp; omega
   have e1n : decide (k < S.length) = false := by simpa using h
   have LEE : Hid (layF W S (fun _ => 0) [] = some (out, F)) := Lib.hid (by have := LE.out; rw [hke, List.take_length] at this; exact this)
   have hlv := lvl_iff (F := F) hW
   clear hke h
   by_cases hl : Lvl W F
   ·have e2 : (F (minAt F (W - 1)) != maxTo F (W - 1)) = false := by have := hlv.2 hl; simpa using this
    have HLV := Lib.hid hl
    clear hl hlv
    go_wp2_with (first
     | (go_at_call 51; (with_reducible refine (fmin_any _ W F _ HIF.out hW hW2).mono ?_); rintro e w7 ⟨rfl, rfl⟩)
     | (go_at_call 52; (with_reducible refine (fmax_any _ W F _ HIF.out hW hW2).mono ?_); rintro e w7 ⟨rfl, rfl⟩))
    go_ret2
    exact ⟨.inl ⟨out, F, LEE.out, HLV.out, va, vk, rfl, own_base LM.out.out (by omega)⟩, LM.out.below⟩
   ·have e2 : (F (minAt F (W - 1)) != maxTo F (W - 1)) = true := by rw [bne_iff_ne]; exact fun e => hl (hlv.1 e)
    have HLV := Lib.hid hl
    clear hl hlv
    go_wp2_with (first
     | (go_at_call 51; (with_reducible refine (fmin_any _ W F _ HIF.out hW hW2).mono ?_); rintro e w7 ⟨rfl, rfl⟩)
     | (go_at_call 52; (with_reducible refine (fmax_any _ W F _ HIF.out hW hW2).mono ?_); rintro e w7 ⟨rfl, rfl⟩))
    go_ret2
    refine ⟨.inr ⟨fun o F' e' => ?_, rfl⟩, LM.out.below⟩
    rw [LEE.out] at e'
    injection e' with e'
    injection e' with e1' e2'
    rw [← e2']; exact HLV.out
end Go.Proofs.YtolkchkedieppaaGreat

/- The shelf's sorts at this program, in plain words (written by the kit's lay-plain.mjs). -/
namespace Go.Proofs
open Go.Shelf
def Tryz.sortSq_ren : Go.Shelf.Ren := ⟨fun | 6 => 104 | 15 => 135 | 14 => 136 | 28 => 168 | 29 => 169 | 20 => 170 | 21 => 171 | 22 => 172 | 23 => 173 | 24 => 174 | 25 => 175 | 26 => 176 | 27 => 177 | 46 => 198 | 47 => 194 | 48 => 195 | 49 => 199 | 50 => 200 | 57 => 205 | n => n, fun | 22 => 23 | 24 => 47 | 25 => 150 | 3 => 3 | 39 => 167 | 0 => 0 | 53 => 166 | 55 => 163 | 4 => 4 | 46 => 199 | 45 => 198 | 50 => 203 | 5 => 5 | 9 => 9 | 66 => 223 | 70 => 227 | 76 => 233 | 77 => 44 | n => n, fun | n => n⟩
theorem Tryz.sortSq : Go.Proofs.SlLaysF0.n6 Tryz.prog Tryz.sortSq_ren := {
 mixed := by kernel_rfl
 f6 := ⟨Tryz.f104.name, by decide, Tryz.func104.trans (congrArg some (by kernel_rfl))⟩
 f14 := ⟨Tryz.f136.name, by decide, Tryz.func136.trans (congrArg some (by kernel_rfl))⟩
 f15 := Tryz.func135.trans (congrArg some (by kernel_rfl))
 f20 := ⟨Tryz.f170.name, by decide, Tryz.func170.trans (congrArg some (by kernel_rfl))⟩
 f21 := ⟨Tryz.f171.name, by decide, Tryz.func171.trans (congrArg some (by kernel_rfl))⟩
 f22 := ⟨Tryz.f172.name, by decide, Tryz.func172.trans (congrArg some (by kernel_rfl))⟩
 f23 := ⟨Tryz.f173.name, by decide, Tryz.func173.trans (congrArg some (by kernel_rfl))⟩
 f24 := ⟨Tryz.f174.name, by decide, Tryz.func174.trans (congrArg some (by kernel_rfl))⟩
 f25 := ⟨Tryz.f175.name, by decide, Tryz.func175.trans (congrArg some (by kernel_rfl))⟩
 f26 := ⟨Tryz.f176.name, by decide, Tryz.func176.trans (congrArg some (by kernel_rfl))⟩
 f27 := ⟨Tryz.f177.name, by decide, Tryz.func177.trans (congrArg some (by kernel_rfl))⟩
 f28 := Tryz.func168.trans (congrArg some (by kernel_rfl))
 f29 := Tryz.func169.trans (congrArg some (by kernel_rfl))
 f46 := ⟨Tryz.f198.name, by decide, Tryz.func198.trans (congrArg some (by kernel_rfl))⟩
 f47 := Tryz.func194.trans (congrArg some (by kernel_rfl))
 f48 := Tryz.func195.trans (congrArg some (by kernel_rfl))
 f49 := ⟨Tryz.f199.name, by decide, Tryz.func199.trans (congrArg some (by kernel_rfl))⟩
 f50 := ⟨Tryz.f200.name, by decide, Tryz.func200.trans (congrArg some (by kernel_rfl))⟩
 f57 := ⟨Tryz.f205.name, by decide, Tryz.func205.trans (congrArg some (by kernel_rfl))⟩
 t0 := Tryz.underlying0
 a0 := Tryz.isAgg0
 z0 := Tryz.sizeOf0
 v0 := Tryz.zeroValue0
 t3 := Tryz.underlying3
 a3 := Tryz.isAgg3
 z3 := Tryz.sizeOf3
 v3 := Tryz.zeroValue3
 t4 := Tryz.underlying4
 a4 := Tryz.isAgg4
 z4 := Tryz.sizeOf4
 v4 := Tryz.zeroValue4
 t5 := Tryz.underlying5
 a5 := Tryz.isAgg5
 z5 := Tryz.sizeOf5
 v5 := Tryz.zeroValue5
 t9 := Tryz.underlying9
 a9 := Tryz.isAgg9
 z9 := Tryz.sizeOf9
 v9 := Tryz.zeroValue9
 t22 := Tryz.underlying23
 a22 := Tryz.isAgg23
 z22 := Tryz.sizeOf23
 v22 := Tryz.zeroValue23
 t25 := Tryz.underlying150
 a25 := Tryz.isAgg150
 z25 := Tryz.sizeOf150
 v25 := Tryz.zeroValue150
 t39 := Tryz.underlying167
 a39 := Tryz.isAgg167
 z39 := Tryz.sizeOf167
 v39 := Tryz.zeroValue167
 t45 := Tryz.underlying198
 a45 := Tryz.isAgg198
 z45 := Tryz.sizeOf198
 v45 := Tryz.zeroValue198
 t46 := Tryz.underlying199
 a46 := Tryz.isAgg199
 z46 := Tryz.sizeOf199
 v46 := Tryz.zeroValue199
 t50 := Tryz.underlying203
 a50 := Tryz.isAgg203
 z50 := Tryz.sizeOf203
 v50 := Tryz.zeroValue203
 t53 := Tryz.underlying166
 a53 := Tryz.isAgg166
 z53 := Tryz.sizeOf166
 v53 := Tryz.zeroValue166
 t55 := Tryz.underlying163
 a55 := Tryz.isAgg163
 z55 := Tryz.sizeOf163
 v55 := Tryz.zeroValue163
 t66 := Tryz.underlying223
 a66 := Tryz.isAgg223
 z66 := Tryz.sizeOf223
 v66 := Tryz.zeroValue223
 t70 := Tryz.underlying227
 a70 := Tryz.isAgg227
 z70 := Tryz.sizeOf227
 v70 := Tryz.zeroValue227
 t76 := Tryz.underlying233
 a76 := Tryz.isAgg233
 z76 := Tryz.sizeOf233
 v76 := Tryz.zeroValue233
 t77 := Tryz.underlying44
 a77 := Tryz.isAgg44
 z77 := Tryz.sizeOf44
 v77 := Tryz.zeroValue44 }
def Tryz.sortLn_ren : Go.Shelf.Ren := ⟨fun | 6 => 106 | 15 => 135 | 14 => 137 | 28 => 168 | 29 => 169 | 20 => 178 | 21 => 179 | 22 => 180 | 23 => 181 | 24 => 182 | 25 => 183 | 26 => 184 | 27 => 185 | 46 => 201 | 47 => 194 | 48 => 195 | 49 => 202 | 50 => 203 | 57 => 206 | n => n, fun | 22 => 92 | 24 => 96 | 25 => 152 | 3 => 3 | 39 => 167 | 0 => 0 | 53 => 166 | 55 => 163 | 4 => 4 | 46 => 199 | 45 => 198 | 50 => 203 | 5 => 5 | 9 => 9 | 66 => 223 | 70 => 227 | 76 => 233 | 77 => 44 | n => n, fun | n => n⟩
theorem Tryz.sortLn : Go.Proofs.SlLaysF0.n6 Tryz.prog Tryz.sortLn_ren := {
 mixed := by kernel_rfl
 f6 := ⟨Tryz.f106.name, by decide, Tryz.func106.trans (congrArg some (by kernel_rfl))⟩
 f14 := ⟨Tryz.f137.name, by decide, Tryz.func137.trans (congrArg some (by kernel_rfl))⟩
 f15 := Tryz.func135.trans (congrArg some (by kernel_rfl))
 f20 := ⟨Tryz.f178.name, by decide, Tryz.func178.trans (congrArg some (by kernel_rfl))⟩
 f21 := ⟨Tryz.f179.name, by decide, Tryz.func179.trans (congrArg some (by kernel_rfl))⟩
 f22 := ⟨Tryz.f180.name, by decide, Tryz.func180.trans (congrArg some (by kernel_rfl))⟩
 f23 := ⟨Tryz.f181.name, by decide, Tryz.func181.trans (congrArg some (by kernel_rfl))⟩
 f24 := ⟨Tryz.f182.name, by decide, Tryz.func182.trans (congrArg some (by kernel_rfl))⟩
 f25 := ⟨Tryz.f183.name, by decide, Tryz.func183.trans (congrArg some (by kernel_rfl))⟩
 f26 := ⟨Tryz.f184.name, by decide, Tryz.func184.trans (congrArg some (by kernel_rfl))⟩
 f27 := ⟨Tryz.f185.name, by decide, Tryz.func185.trans (congrArg some (by kernel_rfl))⟩
 f28 := Tryz.func168.trans (congrArg some (by kernel_rfl))
 f29 := Tryz.func169.trans (congrArg some (by kernel_rfl))
 f46 := ⟨Tryz.f201.name, by decide, Tryz.func201.trans (congrArg some (by kernel_rfl))⟩
 f47 := Tryz.func194.trans (congrArg some (by kernel_rfl))
 f48 := Tryz.func195.trans (congrArg some (by kernel_rfl))
 f49 := ⟨Tryz.f202.name, by decide, Tryz.func202.trans (congrArg some (by kernel_rfl))⟩
 f50 := ⟨Tryz.f203.name, by decide, Tryz.func203.trans (congrArg some (by kernel_rfl))⟩
 f57 := ⟨Tryz.f206.name, by decide, Tryz.func206.trans (congrArg some (by kernel_rfl))⟩
 t0 := Tryz.underlying0
 a0 := Tryz.isAgg0
 z0 := Tryz.sizeOf0
 v0 := Tryz.zeroValue0
 t3 := Tryz.underlying3
 a3 := Tryz.isAgg3
 z3 := Tryz.sizeOf3
 v3 := Tryz.zeroValue3
 t4 := Tryz.underlying4
 a4 := Tryz.isAgg4
 z4 := Tryz.sizeOf4
 v4 := Tryz.zeroValue4
 t5 := Tryz.underlying5
 a5 := Tryz.isAgg5
 z5 := Tryz.sizeOf5
 v5 := Tryz.zeroValue5
 t9 := Tryz.underlying9
 a9 := Tryz.isAgg9
 z9 := Tryz.sizeOf9
 v9 := Tryz.zeroValue9
 t22 := Tryz.underlying92
 a22 := Tryz.isAgg92
 z22 := Tryz.sizeOf92
 v22 := Tryz.zeroValue92
 t25 := Tryz.underlying152
 a25 := Tryz.isAgg152
 z25 := Tryz.sizeOf152
 v25 := Tryz.zeroValue152
 t39 := Tryz.underlying167
 a39 := Tryz.isAgg167
 z39 := Tryz.sizeOf167
 v39 := Tryz.zeroValue167
 t45 := Tryz.underlying198
 a45 := Tryz.isAgg198
 z45 := Tryz.sizeOf198
 v45 := Tryz.zeroValue198
 t46 := Tryz.underlying199
 a46 := Tryz.isAgg199
 z46 := Tryz.sizeOf199
 v46 := Tryz.zeroValue199
 t50 := Tryz.underlying203
 a50 := Tryz.isAgg203
 z50 := Tryz.sizeOf203
 v50 := Tryz.zeroValue203
 t53 := Tryz.underlying166
 a53 := Tryz.isAgg166
 z53 := Tryz.sizeOf166
 v53 := Tryz.zeroValue166
 t55 := Tryz.underlying163
 a55 := Tryz.isAgg163
 z55 := Tryz.sizeOf163
 v55 := Tryz.zeroValue163
 t66 := Tryz.underlying223
 a66 := Tryz.isAgg223
 z66 := Tryz.sizeOf223
 v66 := Tryz.zeroValue223
 t70 := Tryz.underlying227
 a70 := Tryz.isAgg227
 z70 := Tryz.sizeOf227
 v70 := Tryz.zeroValue227
 t76 := Tryz.underlying233
 a76 := Tryz.isAgg233
 z76 := Tryz.sizeOf233
 v76 := Tryz.zeroValue233
 t77 := Tryz.underlying44
 a77 := Tryz.isAgg44
 z77 := Tryz.sizeOf44
 v77 := Tryz.zeroValue44 }
end Go.Proofs

/- Squares of a hide: compared, sorted, cloned. -/
namespace Go.Proofs.YtolkchkedieppaaGreat
open Go.RowKit Go.Sort Go.Shelf Go.Lib
attribute [local go_sem ↓] Go.wp_at_zero Go.wp_at_succ
/-- three integers: a square (x, y, side), or a line (y, from, to) -/
structure Tr where
 a : Int
 b : Int
 c : Int
instance : Inhabited Tr := ⟨⟨0, 0, 0⟩⟩
def trC (t : Tr) : List Value := [.int .i64 t.a, .int .i64 t.b, .int .i64 t.c]
def trL : List Tr → List Value
 | [] => []
 | x :: l => trC x ++ trL l
theorem trL_len : ∀ P : List Tr, (trL P).length = P.length * 3
 | [] => rfl
 | x :: l => by simp only [trL, List.length_append, trL_len l, List.length_cons]; simp [trC]; omega
theorem trL_app (a b : List Tr) : trL (a ++ b) = trL a ++ trL b := by
 induction a with
 | nil => rfl
 | cons x a ih => simp [trL, ih]
theorem trL_get : ∀ (P : List Tr) (t : Nat) (h : t < P.length * 3), (trL P)[t]? = (trC (P.getD (t / 3) default))[t % 3]?
 | [], t, h => by simp at h
 | x :: l, t, h => by
  simp only [trL]
  by_cases h3 : t < 3
  ·rw [List.getElem?_append_left (by simp [trC]; omega)]
   rw [show t / 3 = 0 by omega, show t % 3 = t by omega]; rfl
  ·rw [List.getElem?_append_right (by simp [trC]; omega)]
   have e : t - (trC x).length = t - 3 := rfl
   rw [e, trL_get l (t - 3) (by simp at h; omega), show t / 3 = (t - 3) / 3 + 1 by omega, show (t - 3) % 3 = t % 3 by omega]
   rfl
/-- triples in a row, as read, from cell o of block g -/
structure TrR (w : World) (g o : Nat) (P : List Tr) : Prop where
 c0 : ∀ i, i < P.length → w.cell? ⟨g, o + i * 3, none⟩ = some (.int .i64 (P.getD i default).a)
 c1 : ∀ i, i < P.length → w.cell? ⟨g, o + i * 3 + 1, none⟩ = some (.int .i64 (P.getD i default).b)
 c2 : ∀ i, i < P.length → w.cell? ⟨g, o + i * 3 + 2, none⟩ = some (.int .i64 (P.getD i default).c)
theorem TrR.below {w w' : World} {g o B : Nat} {P : List Tr} (h : TrR w g o P) (hb : Below B w w') (hg : g < B) : TrR w' g o P :=
 ⟨fun i hi => (hb.cell (p := ⟨g, o + i * 3, none⟩) hg).trans (h.c0 i hi), fun i hi => (hb.cell (p := ⟨g, o + i * 3 + 1, none⟩) hg).trans (h.c1 i hi), fun i hi => (hb.cell (p := ⟨g, o + i * 3 + 2, none⟩) hg).trans (h.c2 i hi)⟩
theorem trR_own {w : World} {base g cap : Nat} {e : TypeId} {P : List Tr} (h : w.ownsRow base e 3 (.slice (some ⟨g, 0, none⟩) P.length cap) P.length (trL P)) : TrR w g 0 P := by
 have h2 : ∀ t, t < P.length * 3 → w.cell? ⟨g, t, none⟩ = (trC (P.getD (t / 3) default))[t % 3]? := fun t ht => by
  rw [h.cellAt t ht, trL_get P t ht]
 refine ⟨fun i hi => ?_, fun i hi => ?_, fun i hi => ?_⟩
 ·rw [Nat.zero_add, h2 (i * 3) (by omega), show i * 3 / 3 = i by omega, show i * 3 % 3 = 0 by omega]; rfl
 ·rw [Nat.zero_add, h2 (i * 3 + 1) (by omega), show (i * 3 + 1) / 3 = i by omega, show (i * 3 + 1) % 3 = 1 by omega]; rfl
 ·rw [Nat.zero_add, h2 (i * 3 + 2) (by omega), show (i * 3 + 2) / 3 = i by omega, show (i * 3 + 2) % 3 = 2 by omega]; rfl
theorem flatT_get (P : List Tr) (t : Nat) (h : t < P.length * 3) : (flatK trC 3 P.toArray)[t]! = (trC (P.getD (t / 3) default))[t % 3]! := by
 rw [get_flatK _ _ _ _ (by simpa using h)]
 have e : P.toArray[t / 3]! = P.getD (t / 3) default := by
  have : t / 3 < P.length := by omega
  simp [this]
 rw [e]
theorem holdsT_own {w : World} {base g cap : Nat} {e : TypeId} {P : List Tr} (h : w.ownsRow base e 3 (.slice (some ⟨g, 0, none⟩) P.length cap) P.length (trL P)) : HoldsK trC 3 w g 0 P.toArray := by
 intro t ht
 have ht2 : t < P.length * 3 := by simpa using ht
 rw [Nat.zero_add]
 refine ⟨?_, h.frozenAt t⟩
 rw [h.cellAt t ht2, trL_get P t ht2, flatT_get P t ht2]
 have h3 : t % 3 < 3 := Nat.mod_lt _ (by omega)
 generalize P.getD (t / 3) default = x
 rcases (show t % 3 = 0 ∨ t % 3 = 1 ∨ t % 3 = 2 by omega) with e | e | e <;> rw [e] <;> rfl
theorem trR_holds {w : World} {g : Nat} {P : List Tr} (h : HoldsK trC 3 w g 0 P.toArray) : TrR w g 0 P := by
 have h2 : ∀ t, t < P.length * 3 → w.cell? ⟨g, t, none⟩ = some ((trC (P.getD (t / 3) default))[t % 3]!) := fun t ht => by
  have := (h t (by simpa using ht)).1
  rw [Nat.zero_add, flatT_get P t ht] at this
  exact this
 refine ⟨fun i hi => ?_, fun i hi => ?_, fun i hi => ?_⟩
 ·rw [Nat.zero_add, h2 (i * 3) (by omega), show i * 3 / 3 = i by omega, show i * 3 % 3 = 0 by omega]; rfl
 ·rw [Nat.zero_add, h2 (i * 3 + 1) (by omega), show (i * 3 + 1) / 3 = i by omega, show (i * 3 + 1) % 3 = 1 by omega]; rfl
 ·rw [Nat.zero_add, h2 (i * 3 + 2) (by omega), show (i * 3 + 2) / 3 = i by omega, show (i * 3 + 2) % 3 = 2 by omega]; rfl
theorem sortT_below {w : World} {B g n : Nat} {d : Array Tr} {os : Array Obj} (hg : B ≤ g) (hB : B ≤ w.heap.size) : Below B w (sortWorldK trC 3 w g 0 n d os) := by
 refine ⟨rfl, rfl, rfl, size_sortWorldK_c _ _ _ _ _ _ _ _, fun k hk => ?_⟩
 unfold sortWorldK grow putRowK putRow mapBlock
 rw [Array.getElem?_append_left (by simp [Sort.ahead]; omega), Array.getElem?_modify, if_neg (by omega)]
 rfl
theorem permT_of {d d' : Array Tr} (h : Go.Sort.PermIn 0 d.size d d') : d.toList.Perm d'.toList := by
 obtain ⟨h1, _, h3⟩ := h
 have e1 : d.extract 0 d.size = d := by simp
 have e2 : d'.extract 0 d.size = d' := by rw [← h1]; simp
 rw [e1, e2] at h3
 exact h3.symm
theorem get_listT (d : Array Tr) (i : Nat) (h : i < d.size) : d[i]! = d.toList[i]'(by simpa using h) := by
 rw [getElem!_pos d i h]; simp
theorem sortedT_of {d d' : Array Tr} {cf : Tr → Tr → Int} (hs : d'.size = d.size) (h : Go.Sort.SortedIn (ltOf cf) 0 d.size d') : d'.toList.Pairwise (fun a b => ¬ cf b a < 0) := by
 rw [List.pairwise_iff_getElem]
 intro i j hi hj hij
 have hi' : i < d'.size := by simpa using hi
 have hj' : j < d'.size := by simpa using hj
 have := h i j (Nat.zero_le _) hij (by omega)
 rw [ltOf, get_listT d' i hi', get_listT d' j hj', decide_eq_false_iff_not] at this
 exact this
/-- how squares are compared: by y, then x -/
def cmpS (p q : Tr) : Int := if p.b < q.b then -1 else if q.b < p.b then 1 else if p.a < q.a then -1 else if q.a < p.a then 1 else 0
def ltS (p q : Tr) : Prop := p.b < q.b ∨ (p.b = q.b ∧ p.a < q.a)
theorem cmpS_lt (p q : Tr) : cmpS p q < 0 ↔ ltS p q := by
 unfold cmpS ltS
 split
 ·simp; omega
 ·split
  ·simp; omega
  ·split
   ·simp; omega
   ·split
    ·simp; omega
    ·simp; omega
theorem swo_cmpS : Go.Sort.SWO (ltOf cmpS) where
 irrefl x := by rw [ltOf, decide_eq_false_iff_not, cmpS_lt]; unfold ltS; omega
 trans x y z h1 h2 := by
  rw [ltOf, decide_eq_true_iff, cmpS_lt] at *
  unfold ltS at *; omega
 ntrans x y z h1 h2 := by
  rw [ltOf, decide_eq_false_iff_not, cmpS_lt] at *
  unfold ltS at *; omega
def twF (p q : Int) : Nat → Int := fun j => if j = 0 then p else q
theorem tw_ints (w : World) (p q : Int) : Ints (w.alloc (.cells #[.int .i64 p, .int .i64 q] 3)) (.slice (some ⟨w.heap.size, 0, none⟩) 2 2) 2 (twF p q) :=
 ints_of_own (base := w.heap.size) ⟨rfl, .inr ⟨w.heap.size, 2, #[.int .i64 p, .int .i64 q], rfl, Nat.le_refl _, heap_alloc_new w _, by omega, by unfold maxLen; omega, rfl, rfl⟩⟩
theorem lexS (x y : Tr) : lexC (twF x.b x.a) (twF y.b y.a) 2 2 2 0 = cmpS x y := by
 simp only [lexC, twF, cmp3, cmpS]
 repeat' split
 all_goals (first | rfl | omega | (exfalso; simp at *; omega) | (simp at *; done) | (simp at *; omega))
theorem grow4T (W : World) (a b c d : Obj) : ∃ q os', (((W.alloc a).alloc b).alloc c).alloc d = grow (W.drewN q) os' :=
 ⟨0, #[a] ++ #[b] ++ #[c] ++ #[d], by rw [alloc_eq_grow, alloc_eq_grow, alloc_eq_grow, alloc_eq_grow, grow_grow, grow_grow, grow_grow]; rfl⟩
set_option maxHeartbeats 1000000 in
set_option maxRecDepth 100000 in
theorem hcmp_any (x y : Tr) (W : World) : Calls Tryz.prog 105 #[.agg #[.int .i64 x.a, .int .i64 x.b, .int .i64 x.c], .agg #[.int .i64 y.a, .int .i64 y.b, .int .i64 y.c]] W fun e w' => e = .returned (.int .i64 (cmpS x y)) ∧ ∃ q os', w' = grow (W.drewN q) os' := by
 obtain ⟨W2, hW2⟩ : ∃ W2, W2 = (W.alloc (.cells #[.int .i64 x.a, .int .i64 x.b, .int .i64 x.c] 47)).alloc (.cells #[.int .i64 y.a, .int .i64 y.b, .int .i64 y.c] 47) := ⟨_, rfl⟩
 have e2 : W2.heap.size = W.heap.size + 1 + 1 := by rw [hW2]; simp
 have hcon := compare_ints _ _ 2 2 (twF x.b x.a) (twF y.b y.a) _ ((tw_ints W2 x.b x.a).mono ((Below.refl _ _).alloc (Nat.le_refl _) (.cells #[.int .i64 y.b, .int .i64 y.a] 3)) (Nat.le_refl _)) (tw_ints (W2.alloc (.cells #[.int .i64 x.b, .int .i64 x.a] 3)) y.b y.a) (by omega) (by omega)
 rw [lexS, World.size_alloc, e2] at hcon
 rw [hW2] at hcon
 clear hW2 e2
 generalize cmpS x y = r at hcon ⊢
 go_enter Tryz.func105, Tryz.ntmps105
 go_wp2_with (go_at_call 97; (with_reducible refine hcon.mono ?_); rintro e w' ⟨rfl, rfl⟩)
 go_ret
 exact ⟨rfl, grow4T _ _ _ _ _⟩
theorem hcmp_lays (blk off size : Nat) (w : World) : CmpLays Tryz.prog 105 #[] trC 3 cmpS blk off size w :=
 fun _ _ _ _ x y => hcmp_any x y _
set_option maxHeartbeats 1000000 in
theorem sortSq_any (w : World) (base g cap : Nat) (P : List Tr) (h : w.ownsRow base 47 3 (.slice (some ⟨g, 0, none⟩) P.length cap) P.length (trL P)) (h1000 : P.length ≤ 1000) :
  Calls Tryz.prog 104 #[.slice (some ⟨g, 0, none⟩) P.length cap, .func (.func 105) #[] #[]] w fun e w' => e = .returned (.tuple #[]) ∧ ∃ P' : List Tr, P'.length = P.length ∧ P.Perm P' ∧ P'.Pairwise (fun a b => ¬ ltS b a) ∧ TrR w' g 0 P' ∧ Below g w w' ∧ g < w'.heap.size ∧ (∀ k, k ≠ g → k < w.heap.size → w'.heap[k]? = w.heap[k]?) := by
 have hgb : base ≤ g ∧ g < w.heap.size := h.lt g rfl
 have eg : ∀ args w, (callFunc 105 args).run Tryz.prog w = .ok (.enter 105 args) w := enters_of Tryz.func105 (by kernel_rfl) rfl
 have hcon := AnyQ.slices_SortFunc Tryz.sortSq 3 Tryz.isAgg47 Tryz.sizeOf47 trC (fun _ => rfl) (fun x v hv => by simp [trC] at hv; rcases hv with rfl | rfl | rfl <;> rfl) cmpS swo_cmpS 105 #[] g 0 cap P.toArray w eg (hcmp_lays g 0 P.toArray.size w) (holdsT_own h) hgb.2 (by simp; omega)
 rw [show P.toArray.size = P.length from rfl] at hcon
 refine Calls.mono hcon ?_
 rintro e w' ⟨rfl, d', n, os, hp, hs, rfl⟩
 have hsz : d'.size = P.length := by have := hp.1; simpa using this
 refine ⟨rfl, d'.toList, by simpa using hsz, by have := permT_of hp; simpa using this, ?_, ?_, sortT_below (Nat.le_refl _) (by omega), ?_, fun k hk hkw => ?_⟩
 ·have := sortedT_of (d := P.toArray) (by simpa using hsz) hs
  exact this.imp (fun {a b} q e => q ((cmpS_lt _ _).2 e))
 ·have := holdsK_sortWorldK_c trC 3 w g 0 P.toArray d' n os (holdsT_own h) hgb.2 (by simpa using hsz)
  exact trR_holds (by simpa using this)
 ·exact Nat.lt_of_lt_of_le hgb.2 (size_sortWorldK_c _ _ _ _ _ _ _ _)
 ·unfold sortWorldK grow putRowK putRow mapBlock
  rw [Array.getElem?_append_left (by simp [Sort.ahead]; omega), Array.getElem?_modify, if_neg (fun e => hk e.symm)]
  rfl
end Go.Proofs.YtolkchkedieppaaGreat
