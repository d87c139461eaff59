/- Lay of package hide at sizes in range. -/
import Derived.Test.YtolkchkedieppaaGreatVLayB
import Derived.Deep.DeepCutAuto
import Derived.Deep.CutBlock
import Derived.Test.YtolkchkedieppaaGreatVPlainHd
import Derived.Test.YtolkchkedieppaaGreatVTxtN
import Derived.Test.YtolkchkedieppaaGreatVCurB
import Derived.Test.YtolkchkedieppaaGreatVSame1
set_option linter.unusedVariables false
set_option linter.unusedSimpArgs false
namespace Go.Proofs.YtolkchkedieppaaGreat
open Go.RowKit
attribute [local go_sem ↓] Go.wp_at_zero Go.wp_at_succ
/-- squares as cells -/
def sqC (q : Sq) : List Value := [.int .i64 (q.x : Nat), .int .i64 q.y, .int .i64 (q.s : Nat)]
def sqL : List Sq → List Value
 | [] => []
 | q :: l => sqC q ++ sqL l
theorem sqL_app (a b : List Sq) : sqL (a ++ b) = sqL a ++ sqL b := by
 induction a with
 | nil => rfl
 | cons x a ih => simp [sqL, ih]
theorem infoS : (Tryz.prog.info? 47).map (fun i => (i.zero, i.size, i.bytes)) = some (some (.agg #[.int .i64 0, .int .i64 0, .int .i64 0]), 3, 24) := by kernel_rfl
theorem newS (w : World) (x : Sq) (t : TypeId) : ∀ j u, (sqC x)[j]? = some u → (w.alloc (.cells (sqC x).toArray t)).cell? ((⟨w.heap.size, 0, none⟩ : Addr).add j) = some u := fun j u hj => by
 have hadd : (⟨w.heap.size, 0, none⟩ : Addr).add j = ⟨w.heap.size, j, none⟩ := by unfold Addr.add; split <;> simp_all
 rw [hadd]
 simp [go_sem]
 exact hj
theorem oneS (x : Sq) : ∀ u ∈ sqC x, u.oneCell' = true := fun u hu => by
 simp [sqC] at hu
 rcases hu with rfl | rfl | rfl <;> rfl
theorem infoF : (Tryz.prog.info? 3).map (fun i => (i.zero, i.size, i.bytes)) = some (some (.int .i64 0), 1, 8) := by kernel_rfl
/-- what Lay keeps -/
structure LayM (w wr : World) (g W B : Nat) (F : Nat → Int) (vo : Value) (out : List Sq) : Prop where
 row : wr.rowIs g 3 W (ic F)
 out : wr.ownsRow B 47 3 vo out.length (sqL out)
 far : g < B
 lb : B ≤ wr.heap.size
 old : w.heap.size ≤ g
 below : Below w.heap.size w wr
section
variable {w wr : World} {g W B : Nat} {F : Nat → Int} {vo : Value} {out : List Sq}
theorem LayM.drawn {w' : World} (h : LayM w wr g W B F vo out) (hd : Drawn wr w') : LayM w w' g W B F vo out :=
 ⟨rowIs_below h.row (hd.below wr.heap.size) h.row.lt, own_kept h.out (hd.below _), h.far, Nat.le_trans h.lb (hd.below wr.heap.size).size, h.old, h.below.trans (hd.below _)⟩
theorem LayM.push {w5 : World} {v' : Value} {x : Sq} (h : LayM w wr g W B F vo out) (ob : Obj) (hgrow : (wr.alloc ob).grownBy w5 vo.ownBlock) (hown : w5.ownsRow B 47 3 v' (out.length + 1) (sqL out ++ sqC x)) :
  LayM w w5 g W B F v' (out ++ [x]) := by
 have hB : Below B wr w5 := ((Below.refl B wr).alloc h.lb ob).grown hgrow (by simp; have := h.lb; omega) (fun kk e => (h.out.lt kk e).1)
 refine ⟨rowIs_below h.row hB h.far, ?_, h.far, Nat.le_trans h.lb hB.size, h.old, h.below.trans (hB.mono (by have := h.old; have := h.far; omega))⟩
 rw [sqL_app, List.length_append]
 simp only [sqL, List.append_nil]
 exact hown
theorem LayM.put {w' : World} {F' : Nat → Int} (h : LayM w wr g W B F vo out) (hr : w'.rowIs g 3 W (ic F')) (hg : wr.grownBy w' (some g)) : LayM w w' g W B F' vo out := by
 refine ⟨hr, h.out.kept hg ?_, h.far, Nat.le_trans h.lb hg.size, h.old, h.below.trans ⟨hg.os, hg.tape, hg.output, hg.size, fun k hk => hg.block k (by have := h.below.size; omega) (fun e => by injection e with e; have := h.old; omega)⟩⟩
 rcases hv : vo.ownBlock with _ | k
 ·exact .inl rfl
 ·right
  intro e
  injection e with e
  have := (h.out.lt k hv).1
  have := h.far
  omega
end
theorem layF_take {W : Nat} {S : List Nat} {F0 : Nat → Int} {k : Nat} (h : k < S.length) {out : List Sq} {F : Nat → Int} (e : layF W (S.take k) F0 [] = some (out, F)) :
  layF W (S.take (k + 1)) F0 [] = if FitP W F (S.getD k 0) then some (out ++ [⟨minAt F (W - 1), F (minAt F (W - 1)), S.getD k 0⟩], putF F (minAt F (W - 1)) (S.getD k 0)) else none := by
 have e1 : S.take (k + 1) = S.take k ++ [S.getD k 0] := by rw [List.take_add_one]; simp [h]
 rw [e1, layF_app, e]
 rfl
theorem layF_none {W : Nat} {S : List Nat} {F0 : Nat → Int} : ∀ k, layF W (S.take k) F0 [] = none → layF W S F0 [] = none := fun k h => by
 have : ∀ (l m : List Nat) (F : Nat → Int) (out : List Sq), layF W l F out = none → layF W (l ++ m) F out = none := fun l => by
  induction l with
  | nil => intro m F out h; cases h
  | cons x l ih =>
   intro m F out h
   simp only [List.cons_append, layF] at h ⊢
   split
   ·rename_i q; rw [if_pos q] at h; exact ih m _ _ h
   ·rfl
 have h2 := this (S.take k) (S.drop k) F0 [] h
 rwa [List.take_append_drop] at h2
theorem getD_mem {S : List Nat} {k : Nat} (h : k < S.length) : S.getD k 0 ∈ S := by simp [h]
set_option maxHeartbeats 4000000 in
set_option maxRecDepth 100000 in
theorem lay_good (v : Value) (W : Nat) (S : List Nat) (w : World) (hv : Ints w v S.length (eF S)) (hW : 1 ≤ W) (hW2 : W ≤ 1000) (hS0 : 0 < S.length) (hS24 : S.length ≤ 24) (hS : ∀ s ∈ S, 1 ≤ s ∧ s ≤ 1000) :
  Calls Tryz.prog 15 #[.int .i64 (W : Nat), v] w fun e w' =>
   ((∃ out F, layF W S (fun _ => 0) [] = some (out, F) ∧ Lvl W F ∧ ∃ va vk, e = .returned (.tuple #[.slice va out.length vk, .int .i64 0]) ∧ w'.ownsRow w.heap.size 47 3 (.slice va out.length vk) out.length (sqL out)) ∨
    ((∀ out F, layF W S (fun _ => 0) [] = some (out, F) → ¬ Lvl W F) ∧ e = .returned (.tuple #[.slice none 0 0, .int .i64 5]))) ∧ Below w.heap.size w w' := by
 have HI := Lib.hid hv
 obtain ⟨sa, sb, so, sc, rfl, hs⟩ := hv
 have HS := Lib.hid hs
 have HSS := Lib.hid hS
 obtain ⟨i0, hinf, hz0, hz1, hz2⟩ := info_parts infoS
 have d1 : decide ((24 : Int) < ((S.length : Nat) : Int)) = false := by simp; omega
 have d1n : decide (24 < S.length) = false := by simp; omega
 have d2 : (((S.length : Nat) : Int) == 0) = false := by rw [beq_eq_false_iff_ne]; omega
 have d2n : (S.length == 0) = false := by rw [beq_eq_false_iff_ne]; omega
 have HNB : Hid ((false : Bool) = true ↔ ∃ i, i < S.length ∧ (eF S i < 1 ∨ 1000 < eF S i)) := Lib.hid ⟨fun q => Bool.noConfusion q, fun ⟨i, hi, q⟩ => by
  exfalso
  have := hS _ (getD_mem hi)
  unfold eF at q
  omega⟩
 have hmk := run_make_row' (P := Tryz.prog) 84 3 (.int .i64 0) 8 Tryz.underlying84 infoF rfl .i64 .i64 W (by omega) (by omega)
 clear hs hS
 go_enter Tryz.func15, Tryz.ntmps15
 go_wp2_with (first
  | (go_at_call 47; (with_reducible refine (lay_not _ _ (by omega)).mono ?_); rintro e w1 ⟨rfl, rfl⟩)
  | (go_at_call 48; (with_reducible refine (lay_cont _ S.length (eF S) false HNB.out _ HI.out (by omega)).mono ?_); rintro e w2 ⟨rfl, hd⟩; have HD := Lib.hid hd; clear hd))
 generalize hgw : w2.heap.size = g
 have hBW : w.heap.size ≤ g := by rw [← hgw]; exact (HD.out.below w.heap.size).size
 have L0 : Hid (LayM w (w2.alloc (.cells (madeCells #[.int .i64 0] W) 3)) g W (g + 1) (fun _ => 0) (.slice none 0 0) []) := Lib.hid (by
  rw [← hgw] at hBW ⊢
  exact ⟨World.rowIs_made w2 (.int .i64 0) W 3, World.ownsRow_nil _ _ _ _, by omega, by simp, hBW, (HD.out.below w.heap.size).alloc hBW _⟩)
 have LE0 : Hid (layF W (S.take 0) (fun _ => 0) [] = some ([], fun _ => 0)) := Lib.hid rfl
 have HS2 := Lib.hid (HS.out.drawn HD.out)
 go_loopw [8, 10, 11, 12, 35] (fun v8 v10 v11 v12 v35 wr => ∃ (k : Nat) (out : List Sq) (F : Nat → Int) (vo : Value), k ≤ S.length ∧ v35 = .int .i64 (k : Nat) ∧ vo = v8 ∧ Hid (out.length = k) ∧ Hid (layF W (S.take k) (fun _ => 0) [] = some (out, F)) ∧ Hid (∀ i, 0 ≤ F i ∧ F i ≤ 1000) ∧ Hid (LayM w wr g W (g + 1) F vo out)) (fun _ _ _ _ v35 _ => S.length - (intOf v35).toNat)
 case atStart => exact ⟨0, [], fun _ => 0, _, by omega, rfl, rfl, Lib.hid rfl, LE0, Lib.hid (fun _ => by simp), L0⟩
 case round =>
  clear L0 LE0 hmk
  obtain ⟨k, out, F, vo, hk, rfl, rfl, HOL, LE, FR, LM⟩ := hrel
  obtain ⟨va, vk, rfl⟩ := own_shape LM.out.out
  have hln : out.length ≤ 24 := by have := HOL.out; omega
  have HIF := Lib.hid (show Ints wr (.slice (some ⟨g, 0, none⟩) W W) W F from ⟨_, _, _, _, rfl, rowIs_sl LM.out.row⟩)
  by_cases h : k < S.length
  ·have e1 : decide ((k : Int) < ((S.length : Nat) : Int)) = true := by simpa using h
   have e1n : decide (k < S.length) = true := by simpa using h
   have hix := fun W' => ixI HS2.out k sc h W'
   have hc := (HS.out.mono LM.out.below (Nat.le_refl _)).cell k h
   simp only [ic, eF] at hc
   have hsr := HSS.out _ (getD_mem h)
   obtain ⟨s, hs⟩ : ∃ s, s = S.getD k 0 := ⟨_, rfl⟩
   rw [← hs] at hc hsr
   have HSK := Lib.hid hs
   clear hs
   go_upto_region 12 with (go_at_call 49; (with_reducible refine (fnext_any _ W F _ HIF.out hW hW2).mono ?_); rintro e w3 ⟨r, hrun, rfl, hd⟩; have HRUN := Lib.hid hrun; have LM := Lib.hid (LM.out.drawn hd); clear hrun hd)
   clear hix hc
   have hp := minAt_le F (W - 1)
   have hrl := HRUN.out.le
   have hfit := HRUN.out.fit (s := s)
   obtain ⟨p, hpe⟩ : ∃ p, p = minAt F (W - 1) := ⟨_, rfl⟩
   have hfr := FR.out p
   rw [← hpe] at hp hrl hfit ⊢
   have HPE := Lib.hid hpe
   have HFIT := Lib.hid hfit
   clear hfit hpe
   have hpW : p < W := by omega
   have ipx := fun W' => ixFl (rowIs_sl LM.out.row) p W hpW W'
   have cp := LM.out.row.cell (i := p) hpW
   simp only [ic, Nat.zero_add] at ipx cp
   have hwr : IntKind.i64.wrap (F p + (s : Int)) = F p + (s : Int) := by rw [IntKind.wrap_i64]; omega
   by_cases h1 : r < s
   ·have e2 : decide ((r : Int) < (s : Int)) = true := by simpa using h1
    have e2n : decide (r < s) = true := by simpa using h1
    have HNF : Hid (¬ FitP W F s) := Lib.hid (fun q => by have := (HFIT.out.1 q).1; omega)
    clear h1
    go_wp2_with fail
    go_ret2
    refine ⟨.inr ⟨fun o F' e' => ?_, rfl⟩, LM.out.below⟩
    have := layF_none (k + 1) (by rw [layF_take h LE.out, ← HSK.out, if_neg HNF.out])
    rw [this] at e'; cases e'
   ·have e2 : decide ((r : Int) < (s : Int)) = false := by simpa using h1
    have e2n : decide (r < s) = false := by simpa using h1
    by_cases h2 : 1000 < F p + (s : Int)
    ·have e3 : decide ((1000 : Int) < F p + (s : Int)) = true := by simpa using h2
     have HNF : Hid (¬ FitP W F s) := Lib.hid (fun q => by have := (HFIT.out.1 q).2; omega)
     clear h1 h2
     go_wp2_with fail
     go_ret2
     refine ⟨.inr ⟨fun o F' e' => ?_, rfl⟩, LM.out.below⟩
     have := layF_none (k + 1) (by rw [layF_take h LE.out, ← HSK.out, if_neg HNF.out])
     rw [this] at e'; cases e'
    ·have e3 : decide ((1000 : Int) < F p + (s : Int)) = false := by simpa using h2
     have HYF : Hid (FitP W F s) := Lib.hid (HFIT.out.2 ⟨by omega, by omega⟩)
     have hps : p + s ≤ W := by omega
     have HFB : Hid (∀ i, i < W → -1000 ≤ F i ∧ F i ≤ 1000) := Lib.hid (fun i _ => by have := FR.out i; omega)
     have LE2 : Hid (layF W (S.take (k + 1)) (fun _ => 0) [] = some (out ++ [⟨p, F p, s⟩], putF F p s)) := Lib.hid (by rw [layF_take h LE.out, ← HSK.out, if_pos HYF.out, ← HPE.out])
     have FR2 : Hid (∀ i, 0 ≤ putF F p s i ∧ putF F p s i ≤ 1000) := Lib.hid (layF_range W _ _ _ _ _ (fun i => by simp) LE2.out).1
     clear h1 h2
     have hlb := LM.out.lb
     go_wp2_with (first
      | (at_builtin; refine wpList_append_own_at _ rfl (.tmp 56) (.tmp 64) 23 rfl (g + 1) 47 i0 _ 3 24 Tryz.underlying23 hinf hz0 hz1 hz2 rfl (by decide) (.slice va out.length vk) out.length (sqL out) rfl (LM.out.out.alloc _) ⟨w3.heap.size, 0, none⟩ 1 1 (sqC ⟨p, F p, s⟩) rfl rfl (newS w3 ⟨p, F p, s⟩ _) (oneS ⟨p, F p, s⟩) (by unfold maxLen; omega) (by omega) (by simp; omega) ?_; intro v' w5 hown hgrow _ hbk; have LM := Lib.hid (LM.out.push (x := ⟨p, F p, s⟩) _ hgrow hown); obtain ⟨vb, vc, rfl⟩ := own_shape hown; clear hown hgrow hbk)
      | (go_at_call 50; (with_reducible refine (fput_any g W s p (s : Int) F _ LM.out.row hps hW2 HFB.out (by omega)).mono ?_); rintro e w6 ⟨rfl, hr, hgr⟩; have LM := Lib.hid (LM.out.put hr hgr); clear hr hgr))
     go_roundw
     case rel => exact ⟨k + 1, _, _, _, by omega, by go_num, rfl, Lib.hid (by simp; exact HOL.out), LE2, FR2, LM⟩
     case measure => simp [intOf]; omega
  ·have hke : k = S.length := by omega
   have e1 : decide ((k : Int) < ((S.length : Nat) : Int)) = false := by simp; omega
   have e1n : decide (k < S.length) = false := by simpa using h
   have LEE : Hid (layF W S (fun _ => 0) [] = some (out, F)) := Lib.hid (by have := LE.out; rw [hke, List.take_length] at this; exact this)
   have hlv := lvl_iff (F := F) hW
   clear hke h
   by_cases hl : Lvl W F
   ·have e2 : (F (minAt F (W - 1)) != maxTo F (W - 1)) = false := by have := hlv.2 hl; simpa using this
    have HLV := Lib.hid hl
    clear hl hlv
    go_wp2_with (first
     | (go_at_call 51; (with_reducible refine (fmin_any _ W F _ HIF.out hW hW2).mono ?_); rintro e w7 ⟨rfl, rfl⟩)
     | (go_at_call 52; (with_reducible refine (fmax_any _ W F _ HIF.out hW hW2).mono ?_); rintro e w7 ⟨rfl, rfl⟩))
    go_ret2
    exact ⟨.inl ⟨out, F, LEE.out, HLV.out, va, vk, rfl, own_base LM.out.out (by omega)⟩, LM.out.below⟩
   ·have e2 : (F (minAt F (W - 1)) != maxTo F (W - 1)) = true := by rw [bne_iff_ne]; exact fun e => hl (hlv.1 e)
    have HLV := Lib.hid hl
    clear hl hlv
    go_wp2_with (first
     | (go_at_call 51; (with_reducible refine (fmin_any _ W F _ HIF.out hW hW2).mono ?_); rintro e w7 ⟨rfl, rfl⟩)
     | (go_at_call 52; (with_reducible refine (fmax_any _ W F _ HIF.out hW hW2).mono ?_); rintro e w7 ⟨rfl, rfl⟩))
    go_ret2
    refine ⟨.inr ⟨fun o F' e' => ?_, rfl⟩, LM.out.below⟩
    rw [LEE.out] at e'
    injection e' with e'
    injection e' with e1' e2'
    rw [← e2']; exact HLV.out
end Go.Proofs.YtolkchkedieppaaGreat

/- ref.SameRow of equal lists of texts. -/
namespace Go.Proofs.YtolkchkedieppaaGreat
open Go.RowKit
attribute [local go_sem ↓] Go.wp_at_zero Go.wp_at_succ
set_option maxHeartbeats 2000000 in
set_option maxRecDepth 100000 in
theorem sameRow_eq (v1 v2 : Value) (n : Nat) (f : Nat → ByteArray) (w : World) (h1 : Sl w v1 n (fun j => .string (f j))) (h2 : Sl w v2 n (fun j => .string (f j))) (hn : n ≤ 1048576) :
  Calls Tryz.prog 53 #[v1, v2] w fun e w' => e = .returned (.bool true) ∧ Drawn w w' := by
 obtain ⟨a1, b1, o1, c1, rfl, s1⟩ := h1
 obtain ⟨a2, b2, o2, c2, rfl, s2⟩ := h2
 have S1 := Lib.hid s1
 have S2 := Lib.hid s2
 clear s1 s2
 have d0 : ((n : Int) != (n : Int)) = false := by simp
 go_enter Tryz.func53, Tryz.ntmps53
 go_wp2
 go_loopw [5] (fun v5 wr => ∃ k : Nat, k ≤ n ∧ v5 = .int .i64 (k : Nat) ∧ Hid (Drawn w wr)) (fun v5 _ => n - (intOf v5).toNat)
 case atStart => exact ⟨0, by omega, rfl, Lib.hid (Drawn.refl _)⟩
 case round =>
  obtain ⟨k, hk, rfl, hd⟩ := hrel
  by_cases h : k < n
  ·have d1 : decide ((k : Int) < (n : Int)) = true := by simpa using h
   have g1 : (0 : Int) ≤ (k : Int) := Int.natCast_nonneg k
   have g2 : (k : Int) < (n : Int) := by omega
   obtain rfl := S1.out.at_ (by omega)
   obtain rfl := S2.out.at_ (by omega)
   have x1 := (S1.out.drawn hd.out).cell k h
   have x2 := (S2.out.drawn hd.out).cell k h
   go_wp2
   go_quiet (fail)
   go_wp2
   go_roundw
   case rel => exact ⟨k + 1, by omega, by go_num, Lib.hid (hd.out.trans (Drawn.of _ _))⟩
   case measure => simp [intOf]; omega
  ·obtain rfl : k = n := by omega
   have d1 : decide ((k : Int) < (k : Int)) = false := by simp
   go_wp2
   go_ret
   exact ⟨rfl, hd.out⟩
end Go.Proofs.YtolkchkedieppaaGreat

/- A number has one text. -/
namespace Go.Proofs.YtolkchkedieppaaGreat
open Go.RowKit
theorem Len10.uniq {x L M : Nat} (h : Len10 x L) (h' : Len10 x M) : L = M := by
 rcases Nat.eq_zero_or_pos x with e | e
 ·rw [h.zero e, h'.zero e]
 ·obtain ⟨a1, a2⟩ := h.ge e
  obtain ⟨b1, b2⟩ := h'.ge e
  have key : ∀ {L M : Nat}, 10 ^ (L - 1) ≤ x → x < 10 ^ M → 0 < L → L ≤ M := fun h1 h2 h3 => by
   have h4 := (Nat.pow_lt_pow_iff_right (by omega : 1 < 10)).1 (Nat.lt_of_le_of_lt h1 h2)
   omega
  exact Nat.le_antisymm (key a2 h'.lt a1) (key b2 h.lt b1)
theorem IsTxt.uniq {s t : ByteArray} {x : Nat} (h : IsTxt s x) (h' : IsTxt t x) : s = t := by
 obtain ⟨L, h1, h2, h3⟩ := h
 obtain ⟨M, g1, g2, g3⟩ := h'
 obtain rfl := h1.uniq g1
 have hs : s.data.size = t.data.size := by
  have a : s.data.size = s.size := rfl
  have b : t.data.size = t.size := rfl
  omega
 have hd : s.data = t.data := by
  apply Array.ext hs
  intro i hi hj
  apply UInt8.toNat_inj.1
  have a := h3 i hi
  have b := g3 i hj
  exact a.trans b.symm
 cases s; cases t; simp_all
theorem FracTxt.uniq {s t : ByteArray} {p : Int} {d : Nat} (h : FracTxt s p d) (h' : FracTxt t p d) : s = t := by
 obtain ⟨a, h1, h2⟩ := h
 obtain ⟨b, g1, g2⟩ := h'
 obtain rfl := h1.uniq g1
 rcases h2 with ⟨hd, rfl⟩ | ⟨hd, u, hu, rfl⟩
 ·rcases g2 with ⟨_, rfl⟩ | ⟨hd2, _⟩
  ·rfl
  ·exact absurd hd hd2
 ·rcases g2 with ⟨hd2, _⟩ | ⟨_, v, hv, rfl⟩
  ·exact absurd hd2 hd
  ·rw [hu.uniq hv]
end Go.Proofs.YtolkchkedieppaaGreat

/- lives of the laws of hide. -/
namespace Go.Proofs.YtolkchkedieppaaGreat
open Go.RowKit
attribute [local go_sem ↓] Go.wp_at_zero Go.wp_at_succ
theorem w3_ht : HtOK 3 W3 x3 2 2 where
 piv := by show ∀ c, c < 2 → _; decide +kernel
 sz := fun c hc i j hi hj => by
  have h : ∀ c, c < 3 → ∀ i, i < 2 → ∀ j, j < 3 → szQ (triQ (augQ 2 (castM (hMat 3 W3 3)) (fun i => if i = 0 then 1 else 0)) c i j) ≤ 2 := by decide +kernel
  exact h c (by omega) i hi j hj
 k1 := by omega
 k2 := by omega
 sol := by show ∀ i, i < 2 → _; decide +kernel
 xs := by show ∀ i, i < 2 → _; decide +kernel
 x2 := by omega
 x1 := by omega
theorem w3_U : uK (curQ W3 (potQ 3 x3)) 3 = 3 := by decide +kernel
theorem w3_G : gK (curQ W3 (potQ 3 x3)) 3 3 = 1 := by decide +kernel
theorem w3_cq : ∀ k, k < 3 → curQ W3 (potQ 3 x3) k * ((3 : Nat) : Int) / ((1 : Nat) : Int) = if k = 0 then 2 else 1 := by decide +kernel
theorem maxD_of {x e : Nat} (hx : x < 10 ^ e) (he : e ≤ 4000) : MaxD x := by
 have h : ∀ m, e ≤ m → x < 10 ^ m := fun m hm => Nat.lt_of_lt_of_le hx (Nat.pow_le_pow_right (Nat.succ_pos 9) hm)
 exact ⟨h 4000 he⟩
theorem maxD_1 : MaxD 1 := maxD_of (e := 1) (by decide) (by decide)
theorem maxD_2 : MaxD 2 := maxD_of (e := 1) (by decide) (by decide)
theorem w3_cur : CurOK W3.length (curQ W3 (potQ 3 x3)) 2 where
 s1 := by show ∀ k, k < 3 → _; decide +kernel
 u1 := by show ∀ k, k ≤ 3 → _; intro k hk; revert k; decide +kernel
 s2 := by show ∀ k, k < 3 → szQ (_ * ((uK (curQ W3 (potQ 3 x3)) 3 : Nat) : Int)) ≤ 2; rw [w3_U]; decide +kernel
 g0 := by show 0 < gK _ (uK (curQ W3 (potQ 3 x3)) 3) 3; rw [w3_U, w3_G]; omega
 s3 := by
  show ∀ k, k < 3 → szQ (_ * ((uK (curQ W3 (potQ 3 x3)) 3 : Nat) : Int) / ((gK (curQ W3 (potQ 3 x3)) (uK (curQ W3 (potQ 3 x3)) 3) 3 : Nat) : Int)) ≤ 2
  rw [w3_U, w3_G]
  intro k hk
  rw [w3_cq k hk]
  rcases (by omega : k = 0 ∨ k = 1 ∨ k = 2) with rfl | rfl | rfl <;> decide +kernel
 d := by
  show ∀ k, k < 3 → MaxD (_ * ((uK (curQ W3 (potQ 3 x3)) 3 : Nat) : Int) / ((gK (curQ W3 (potQ 3 x3)) (uK (curQ W3 (potQ 3 x3)) 3) 3 : Nat) : Int) : Rat).num.natAbs ∧ MaxD (_ * ((uK (curQ W3 (potQ 3 x3)) 3 : Nat) : Int) / ((gK (curQ W3 (potQ 3 x3)) (uK (curQ W3 (potQ 3 x3)) 3) 3 : Nat) : Int) : Rat).den
  rw [w3_U, w3_G]
  intro k hk
  rw [w3_cq k hk]
  rcases (by omega : k = 0 ∨ k = 1 ∨ k = 2) with rfl | rfl | rfl
  ·exact ⟨maxD_2, maxD_1⟩
  ·exact ⟨maxD_1, maxD_1⟩
  ·exact ⟨maxD_1, maxD_1⟩
/-- the texts of the example's currents -/
def t3 (j : Nat) : ByteArray := if j = 0 then ⟨#[50]⟩ else ⟨#[49]⟩
theorem w3_txt {ss : Nat → ByteArray} (h : TxtsOf W3.length (fun k => curQ W3 (potQ 3 x3) k * ((uK (curQ W3 (potQ 3 x3)) W3.length : Nat) : Int) / ((gK (curQ W3 (potQ 3 x3)) (uK (curQ W3 (potQ 3 x3)) W3.length) W3.length : Nat) : Int)) ss) : ∀ j, j < 3 → ss j = t3 j := fun j hj => by
 have h1 := h.txt j hj
 have hl : W3.length = 3 := rfl
 rw [hl, w3_U, w3_G, w3_cq j hj] at h1
 refine h1.uniq ?_
 rcases (by omega : j = 0 ∨ j = 1 ∨ j = 2) with rfl | rfl | rfl
 ·refine ⟨⟨#[50]⟩, ⟨1, ⟨by decide, fun e => by omega, fun _ => ⟨by omega, by decide⟩⟩, rfl, fun i hi => ?_⟩, .inl ⟨rfl, rfl⟩⟩
  obtain rfl : i = 0 := by have : i < 1 := hi; omega
  rfl
 ·refine ⟨⟨#[49]⟩, ⟨1, ⟨by decide, fun e => by omega, fun _ => ⟨by omega, by decide⟩⟩, rfl, fun i hi => ?_⟩, .inl ⟨rfl, rfl⟩⟩
  obtain rfl : i = 0 := by have : i < 1 := hi; omega
  rfl
 ·refine ⟨⟨#[49]⟩, ⟨1, ⟨by decide, fun e => by omega, fun _ => ⟨by omega, by decide⟩⟩, rfl, fun i hi => ?_⟩, .inl ⟨rfl, rfl⟩⟩
  obtain rfl : i = 0 := by have : i < 1 := hi; omega
  rfl
/-- a row that was just made -/
theorem slH_new (w : World) (xs : List Value) (t : TypeId) (g : Nat → Value) (hg : ∀ i, i < xs.length → xs[i]? = some (g i)) : Sl (w.alloc (.cells xs.toArray t)) (.slice (some ⟨w.heap.size, 0, none⟩) xs.length xs.length) xs.length g := by
 refine ⟨_, _, _, _, rfl, Nat.le_refl _, fun _ => rfl, fun _ => by simp, fun i hi => ?_, fun e => by cases e⟩
 rw [Nat.zero_add]
 have h := cell_of_row (w.alloc (.cells xs.toArray t)) w.heap.size i xs.toArray t (0, 0) (heap_alloc_new w _)
 rw [h]; simpa using hg i hi
def L9 : List Nat := [18, 14, 4, 10, 15, 7, 1, 9, 8]
set_option maxHeartbeats 4000000 in
set_option maxRecDepth 100000 in
theorem livesH_true (w : World) : Calls Tryz.prog 18 #[] w fun e w' => e = .returned (.bool true) ∧ Below w.heap.size w w' := by
 go_enter Tryz.func18, Tryz.ntmps18
 go_upto_region 2 with (fail)
 have TR : Hid (TrR (w.alloc (.cells #[.int .i64 0, .int .i64 0, .int .i64 2, .int .i64 2, .int .i64 0, .int .i64 1, .int .i64 2, .int .i64 1, .int .i64 1] 47)) w.heap.size 0 S3) := Lib.hid (by
  refine ⟨fun i hi => ?_, fun i hi => ?_, fun i hi => ?_⟩ <;> (have hi : i < 3 := hi; rcases (by omega : i = 0 ∨ i = 1 ∨ i = 2) with rfl | rfl | rfl <;> simp [go_sem, S3]))
 have KW := Lib.hid ((Below.refl w.heap.size w).alloc (Nat.le_refl _) (.cells #[.int .i64 0, .int .i64 0, .int .i64 2, .int .i64 2, .int .i64 0, .int .i64 1, .int .i64 2, .int .i64 1, .int .i64 1] 47))
 have HG : Hid (w.heap.size < (w.alloc (.cells #[.int .i64 0, .int .i64 0, .int .i64 2, .int .i64 2, .int .i64 0, .int .i64 1, .int .i64 2, .int .i64 1, .int .i64 1] 47)).heap.size) := Lib.hid (by simp)
 generalize w.alloc (.cells #[.int .i64 0, .int .i64 0, .int .i64 2, .int .i64 2, .int .i64 0, .int .i64 1, .int .i64 2, .int .i64 1, .int .i64 1] 47) = w1 at TR KW HG ⊢
 obtain ⟨g0, hg0⟩ : ∃ g0, g0 = w.heap.size := ⟨_, rfl⟩
 rw [← hg0] at TR HG ⊢
 clear hg0
 have hc := code_good g0 3 S3 w1 TR.out HG.out (by decide) s3_cut
 rw [show S3.length = 3 from rfl] at hc
 go_upto_region 3 with (first
  | (go_at_call 31; (with_reducible refine hc.mono ?_); rintro e w2 ⟨va, vk, S', B, rfl, hl, hp, hs, hB, ho, hb⟩; obtain rfl := s3_sorted hp hs; have HI := Lib.hid (ints_of_own ho); have KW := Lib.hid (KW.out.trans (hb.mono KW.out.size)); have TR := Lib.hid (TR.out.below hb HG.out); have HG := Lib.hid (Nat.lt_of_lt_of_le HG.out hb.size); clear hl hp hs hB ho hb))
 clear hc
 have hn := network_good g0 3 S3 w2 TR.out HG.out (by decide) s3_cut
 rw [show S3.length = 3 from rfl] at hn
 go_upto_region 4 with (first
  | (go_at_call 20; (with_reducible refine hn.mono ?_); rintro e w3 ⟨na, nk, S', P, B, hl, hp, hs, hp2, hs2, rfl, hB, ho, hb⟩; obtain rfl := s3_sorted hp hs; have hj := s3_lines hp2 hs2; rw [show 2 * 3 - 1 = 5 from rfl, hj] at *; have HI := Lib.hid (HI.out.mono hb (Nat.le_refl _)); have KW := Lib.hid (KW.out.trans (hb.mono KW.out.size)); clear hl hp hs hp2 hs2 hB ho hb hj))
 clear hn TR HG
 have PR : Hid (PrR (w3.alloc (.cells #[.int .i64 0, .int .i64 2, .int .i64 0, .int .i64 1, .int .i64 1, .int .i64 2] 40)) w3.heap.size 0 W3) := Lib.hid (by
  refine ⟨fun i hi => ?_, fun i hi => ?_⟩ <;> (have hi : i < 3 := hi; rcases (by omega : i = 0 ∨ i = 1 ∨ i = 2) with rfl | rfl | rfl <;> simp [go_sem, W3]))
 have HA := Lib.hid (boxes1 w3 (.cells #[.int .i64 0, .int .i64 2, .int .i64 0, .int .i64 1, .int .i64 1, .int .i64 2] 40))
 have hk := currents_any w3.heap.size 3 3 W3 x3 2 2 2 _ PR.out (by simp) (by decide) (by decide) (by omega) (by omega) w3_ok w3_ne w3_con w3_ht (Nat.le_refl _) (Nat.le_refl _) (by omega) w3_cur
 rw [show W3.length = 3 from rfl, show ((3 : Nat) : Int) = 3 from rfl] at hk
 go_upto_region 5 with (first
  | (go_at_call 25; go_loud ((with_reducible refine hk.mono ?_); rintro e w4 ⟨ca, ck, ss, rfl, hss, ho, hb⟩; have hs := w3_txt (by exact hss); have hb2 := HA.out.trans (hb.mono HA.out.size); have TX : Hid (Sl w4 (.slice ca 3 ck) 3 (fun j => .string (t3 j))) := Lib.hid (Sl.of_own ho (fun i hi => by rw [strL_get ss 3 i hi, hs i hi])); have HI := Lib.hid (HI.out.mono hb2 (Nat.le_refl _)); have KW := Lib.hid (KW.out.trans (hb2.mono KW.out.size)); clear hss ho hb hs hb2)))
 clear hk PR HA
 have LI : Hid (Ints (w4.alloc (.cells #[.int .i64 18, .int .i64 14, .int .i64 4, .int .i64 10, .int .i64 15, .int .i64 7, .int .i64 1, .int .i64 9, .int .i64 8] 3)) (.slice (some ⟨w4.heap.size, 0, none⟩) 9 9) 9 (eF L9)) :=
  Lib.hid (slH_new w4 [.int .i64 18, .int .i64 14, .int .i64 4, .int .i64 10, .int .i64 15, .int .i64 7, .int .i64 1, .int .i64 9, .int .i64 8] 3 (ic (eF L9)) (fun i hi => by
   have hi : i < 9 := hi
   rcases (by omega : i = 0 ∨ i = 1 ∨ i = 2 ∨ i = 3 ∨ i = 4 ∨ i = 5 ∨ i = 6 ∨ i = 7 ∨ i = 8) with rfl | rfl | rfl | rfl | rfl | rfl | rfl | rfl | rfl <;> rfl))
 have HA := Lib.hid (boxes1 w4 (.cells #[.int .i64 18, .int .i64 14, .int .i64 4, .int .i64 10, .int .i64 15, .int .i64 7, .int .i64 1, .int .i64 9, .int .i64 8] 3))
 have hy := lay_good (.slice (some ⟨w4.heap.size, 0, none⟩) 9 9) 32 L9 _ LI.out (by omega) (by omega) (by decide) (by decide) (by decide)
 rw [show ((32 : Nat) : Int) = 32 from rfl] at hy
 obtain ⟨out9, F9, hl9, hlen, hlv⟩ := lay_ex
 have HL9 := Lib.hid hl9
 have HLV := Lib.hid hlv
 clear hl9 hlv
 go_upto_region 6 with (first
  | (go_at_call 15; go_loud ((with_reducible refine hy.mono ?_); rintro e w5 ⟨hor, hb⟩; have hor2 : ∃ va vk, e = .returned (.tuple #[.slice va 9 vk, .int .i64 0]) := (by
    rcases hor with ⟨out, F, h1, h2, ya, yk, h3, h4⟩ | ⟨h1, h2⟩
    ·have h5 := HL9.out.symm.trans h1
     injection h5 with h5
     injection h5 with h5 h6
     subst h5
     rw [hlen] at h3
     exact ⟨ya, yk, h3⟩
    ·exact absurd HLV.out (h1 out9 F9 HL9.out)); obtain ⟨ya, yk, rfl⟩ := hor2; have hb2 := HA.out.trans (hb.mono HA.out.size); have HI := Lib.hid (HI.out.mono hb2 (Nat.le_refl _)); have TX := Lib.hid (Sl.mono TX.out hb2 (Nat.le_refl _)); have KW := Lib.hid (KW.out.trans (hb2.mono KW.out.size)); clear hor hb hb2)))
 clear hy LI HA HL9 HLV hlen
 have I2 : Hid (Ints (w5.alloc (.cells #[.int .i64 2, .int .i64 1, .int .i64 1] 3)) (.slice (some ⟨w5.heap.size, 0, none⟩) 3 3) 3 (szF S3)) :=
  Lib.hid (slH_new w5 [.int .i64 2, .int .i64 1, .int .i64 1] 3 (ic (szF S3)) (fun i hi => by
   have hi : i < 3 := hi
   rcases (by omega : i = 0 ∨ i = 1 ∨ i = 2) with rfl | rfl | rfl <;> rfl))
 have HA := Lib.hid (boxes1 w5 (.cells #[.int .i64 2, .int .i64 1, .int .i64 1] 3))
 have HI := Lib.hid (HI.out.mono HA.out (Nat.le_refl _))
 have TX := Lib.hid (Sl.mono TX.out HA.out (Nat.le_refl _))
 have KW := Lib.hid (KW.out.trans (HA.out.mono KW.out.size))
 have hT : ∀ W : World, Sl (W.alloc (.cells #[.string { data := #[50] }, .string { data := #[49] }, .string { data := #[49] }] 52)) (.slice (some ⟨W.heap.size, 0, none⟩) 3 3) 3 (fun j => .string (t3 j)) := fun W => slH_new W [.string { data := #[50] }, .string { data := #[49] }, .string { data := #[49] }] 52 _ (fun i hi => by
   have hi : i < 3 := hi
   rcases (by omega : i = 0 ∨ i = 1 ∨ i = 2) with rfl | rfl | rfl <;> rfl)
 have HT := Lib.hid hT
 clear hT
 go_wp2_with (first
  | (go_at_call 40; go_loud ((with_reducible refine (same_same _ _ 3 (szF S3) _ HI.out I2.out (by omega)).mono ?_); rintro e w6 ⟨rfl, hd⟩; have hb := hd.below (w5.alloc (.cells #[.int .i64 2, .int .i64 1, .int .i64 1] 3)).heap.size; have TX := Lib.hid (Sl.mono TX.out hb (Nat.le_refl _)); have KW := Lib.hid (KW.out.trans (hb.mono KW.out.size)); clear hd hb))
  | (go_at_call 53; go_loud ((with_reducible refine (sameRow_eq _ _ 3 t3 _ (Sl.mono TX.out (boxes1 _ _) (Nat.le_refl _)) (HT.out _) (by omega)).mono ?_); rintro e w7 ⟨rfl, hd⟩; have KW := Lib.hid ((KW.out.alloc KW.out.size _).trans (hd.below _)); clear hd)))
 go_ret
 exact ⟨rfl, KW.out⟩
end Go.Proofs.YtolkchkedieppaaGreat
