/- Lay of package hide. -/
import Derived.Test.YtolkchkedieppaaGreatVEucA
import Derived.Maps.AppendAt
import Derived.Deep.AppendLies
import Derived.Deep.DeepCutAuto
import Derived.Deep.CutBlock
set_option linter.unusedVariables false
set_option linter.unusedSimpArgs false
namespace Go.Proofs.YtolkchkedieppaaGreat
open Go.RowKit
attribute [local go_sem ↓] Go.wp_at_zero Go.wp_at_succ
set_option maxHeartbeats 2000000 in
set_option maxRecDepth 100000 in
theorem fnext_any (v : Value) (n : Nat) (f : Nat → Int) (w : World) (hv : Ints w v n f) (hn : 1 ≤ n) (hn2 : n ≤ 1000) :
    Calls Tryz.prog 49 #[v] w fun e w' => ∃ r : Nat, RunP n f (minAt f (n - 1)) r ∧ e = .returned (.tuple #[.int .i64 (minAt f (n - 1) : Nat), .int .i64 (r : Nat)]) ∧ Drawn w w' := by
  have HI := Lib.hid hv
  obtain ⟨a, b, o, c, rfl, hs⟩ := hv
  have HS := Lib.hid hs
  obtain ⟨p, hp⟩ : ∃ p, p = minAt f (n - 1) := ⟨_, rfl⟩
  have hpn : p < n := by have := minAt_le f (n - 1); omega
  have HF : Hid (∀ i, i < p → f i ≠ f p) := Lib.hid (fun i hi e => by rw [hp] at hi e; have := minAt_first f (n - 1) i hi; omega)
  rw [← hp]
  have HM := Lib.hid (fmin_any _ n f w HI.out hn hn2)
  rw [← hp] at HM
  clear hs hp
  go_enter Tryz.func49, Tryz.ntmps49
  go_wp2_with (first
    | (go_at_call 51; (with_reducible refine (HM.out).mono ?_); rintro e w1 ⟨rfl, rfl⟩)
    | (go_at_call 101; (with_reducible refine (findex_any _ n f (f p) p _ HI.out hpn rfl HF.out hn2).mono ?_); rintro e w1 ⟨rfl, rfl⟩))
  go_loopw [5] (fun v5 wr => ∃ r : Nat, 1 ≤ r ∧ p + r ≤ n ∧ v5 = .int .i64 (r : Nat) ∧ Hid (∀ i, i < r → f (p + i) = f p) ∧ Hid (Drawn w wr)) (fun v5 _ => n - (intOf v5).toNat)
  case atStart => exact ⟨1, by omega, by omega, rfl, Lib.hid (fun i hi => by obtain rfl : i = 0 := by omega
                                                                             rfl), Lib.hid (Drawn.refl _)⟩
  case round =>
    obtain ⟨r, hr1, hr, rfl, HR, hd⟩ := hrel
    have hw : IntKind.i64.wrap ((p : Int) + (r : Int)) = ((p + r : Nat) : Int) := by rw [IntKind.wrap_i64]; omega
    by_cases h : p + r < n
    · have e1 : decide (((p + r : Nat) : Int) < (n : Int)) = true := by simp; omega
      have e1n : decide (p + r < n) = true := by simpa using h
      have e1m : decide ((p : Int) + (r : Int) < (n : Int)) = true := by simp; omega
      have ix1 := fun W => ixFl HS.out (p + r) c h W
      have ix2 := fun W => ixFl HS.out p c hpn W
      have c1 := (HS.out.drawn hd.out).cell (p + r) h
      have c2 := (HS.out.drawn hd.out).cell p hpn
      simp only [ic] at c1 c2
      obtain ⟨t, ht⟩ : ∃ t, t = p + r := ⟨_, rfl⟩
      rw [← ht] at hw e1 e1n ix1 c1
      have HT := Lib.hid ht
      clear ht
      by_cases h2 : f t = f p
      · have e2 : (f t == f p) = true := by simpa using h2
        have H2 := Lib.hid h2
        clear h2
        go_wp2
        go_quiet (fail)
        go_wp2
        go_roundw
        case rel => exact ⟨r + 1, by omega, by omega, by go_num, Lib.hid (fun i hi => by
          by_cases q : i = r
          · rw [q, ← HT.out]; exact H2.out
          · exact HR.out i (by omega)), Lib.hid (hd.out.trans (Drawn.of _ _))⟩
        case measure => simp [intOf]; omega
      · have e2 : (f t == f p) = false := by simpa using h2
        have H2 := Lib.hid h2
        clear h2
        go_wp2
        go_quiet (fail)
        go_wp2
        go_ret2
        exact ⟨r, ⟨hr1, hr, HR.out, .inr (by rw [← HT.out]; exact H2.out)⟩, rfl, hd.out.trans (Drawn.of _ _)⟩
    · have e1 : decide (((p + r : Nat) : Int) < (n : Int)) = false := by simp; omega
      have e1n : decide (p + r < n) = false := by simpa using h
      have e1m : decide ((p : Int) + (r : Int) < (n : Int)) = false := by simp; omega
      obtain ⟨t, ht⟩ : ∃ t, t = p + r := ⟨_, rfl⟩
      rw [← ht] at hw e1 e1n
      have hpe : p + r = n := by omega
      have HPE := Lib.hid hpe
      clear ht hpe
      go_wp2
      go_quiet (fail)
      go_wp2
      go_ret2
      exact ⟨r, ⟨hr1, hr, HR.out, .inl HPE.out⟩, rfl, hd.out.trans (Drawn.of _ _)⟩
theorem gset1 (w : World) (b o : Nat) (u : Value) : w.grownBy (w.setCell ⟨b, o, none⟩ u) (some b) := ⟨rfl, rfl, rfl, by simp [World.setCell], fun k _ hk => Below.heap_setCell _ _ _ _ (fun e => hk (by rw [e]))⟩
/-- places at .. k - 1 raised by z -/
def raiseF (F : Nat → Int) (at_ k : Nat) (z : Int) : Nat → Int := fun i => if at_ ≤ i ∧ i < k then F i + z else F i
set_option maxHeartbeats 2000000 in
set_option maxRecDepth 100000 in
theorem fput_any (g W m a : Nat) (z : Int) (F : Nat → Int) (w : World) (hrow : w.rowIs g 3 W (ic F)) (ha : a + m ≤ W) (hW : W ≤ 1000) (hF : ∀ i, i < W → -1000 ≤ F i ∧ F i ≤ 1000) (hz : -1000 ≤ z ∧ z ≤ 1000) :
    Calls Tryz.prog 50 #[.slice (some ⟨g, 0, none⟩) W W, .int .i64 (a : Nat), .int .i64 (m : Nat), .int .i64 z] w fun e w' => e = .returned (.tuple #[]) ∧ w'.rowIs g 3 W (ic (raiseF F a (a + m) z)) ∧ w.grownBy w' (some g) := by
  have R0 : Hid (w.rowIs g 3 W (ic (raiseF F a a z))) := Lib.hid (hrow.congr (fun i hi => by simp only [ic, raiseF]; rw [if_neg (by omega)]))
  have G0 : Hid (w.grownBy w (some g)) := Lib.hid ⟨rfl, rfl, rfl, Nat.le_refl _, fun _ _ _ => rfl⟩
  have HF := Lib.hid hF
  have hw : IntKind.i64.wrap ((a : Int) + (m : Int)) = ((a + m : Nat) : Int) := by rw [IntKind.wrap_i64]; omega
  obtain ⟨T, hT⟩ : ∃ T, T = a + m := ⟨_, rfl⟩
  rw [← hT] at hw ⊢
  clear hrow hF
  go_enter Tryz.func50, Tryz.ntmps50
  go_wp2
  go_loopw [8] (fun v8 wr => ∃ k : Nat, a ≤ k ∧ k ≤ T ∧ v8 = .int .i64 (k : Nat) ∧ Hid (wr.rowIs g 3 W (ic (raiseF F a k z))) ∧ Hid (w.grownBy wr (some g))) (fun v8 _ => T - (intOf v8).toNat)
  case atStart => exact ⟨a, by omega, by omega, rfl, R0, G0⟩
  case round =>
    clear R0 G0
    obtain ⟨k, hk1, hk, rfl, R, G⟩ := hrel
    by_cases h : k < T
    · have e1 : decide ((k : Int) < (T : Int)) = true := by simpa using h
      have e1n : decide (k < T) = true := by simpa using h
      have hkW : k < W := by omega
      have g0 : (0 : Int) ≤ (k : Int) := Int.natCast_nonneg k
      have g1 : (k : Int) < (W : Int) := by omega
      have hix := fun W' => ixFl (rowIs_sl R.out) k W hkW W'
      have cb := R.out.cell (i := k) hkW
      have fb := R.out.frozen k
      have hr := HF.out k hkW
      simp only [ic, raiseF, Nat.zero_add] at cb hix
      rw [if_neg (by omega)] at cb
      have hw2 : IntKind.i64.wrap (F k + z) = F k + z := by rw [IntKind.wrap_i64]; omega
      have R2 : Hid ((wr.setCell ⟨g, k, none⟩ (.int .i64 (F k + z))).rowIs g 3 W (ic (raiseF F a (k + 1) z))) := Lib.hid ((R.out.set k _).congr (fun i hi => by
        simp only [ic, raiseF]
        by_cases q : i = k
        · subst q; simp [show i < i + 1 by omega, hk1]
        · simp only [q, if_false]
          by_cases q2 : a ≤ i ∧ i < k
          · rw [if_pos q2, if_pos (by omega)]
          · rw [if_neg q2, if_neg (by omega)]))
      have G2 := Lib.hid (G.out.trans (gset1 wr g k (.int .i64 (F k + z))))
      go_wp2
      go_roundw
      case rel => exact ⟨k + 1, by omega, by omega, by go_num, R2, G2⟩
      case measure => simp [intOf]; omega
    · obtain rfl : k = T := by omega
      have e1 : decide ((k : Int) < (k : Int)) = false := by simp
      go_wp2
      go_end0
      exact ⟨rfl, R.out, G.out⟩
theorem lay_yes (x : Int) (w : World) (h : x < 1 ∨ 1000 < x) : Calls Tryz.prog 47 #[.int .i64 x] w fun e w' => e = .returned (.bool true) ∧ w = w' := by
  by_cases h1 : x < 1
  · have d1 : decide (x < 1) = true := by simpa using h1
    go_enter Tryz.func47, Tryz.ntmps47
    go_wp2
    go_ret
    exact ⟨rfl, rfl⟩
  · have d1 : decide (x < 1) = false := by simpa using h1
    have d2 : decide (1000 < x) = true := by simp; omega
    go_enter Tryz.func47, Tryz.ntmps47
    go_wp2
    go_ret
    exact ⟨rfl, rfl⟩
theorem lay_not (x : Int) (w : World) (h : ¬ (x < 1 ∨ 1000 < x)) : Calls Tryz.prog 47 #[.int .i64 x] w fun e w' => e = .returned (.bool false) ∧ w = w' := by
  have d1 : decide (x < 1) = false := by simp; omega
  have d2 : decide (1000 < x) = false := by simp; omega
  clear h
  go_enter Tryz.func47, Tryz.ntmps47
  go_wp2
  go_ret
  exact ⟨rfl, rfl⟩
theorem ext_lt2 {n k : Nat} {P : Nat → Prop} (h : ∀ i, i < k → P i) (hk : P k) : ∀ i, i < k + 1 → P i := fun i hi => by
  by_cases e : i = k
  · rw [e]; exact hk
  · exact h i (by omega)
theorem lay_hit (v : Value) (n : Nat) (f : Nat → Int) (w : World) (hv : Ints w v n f) (hn : n ≤ 1048576) (hit : ∃ i, i < n ∧ (f i < 1 ∨ 1000 < f i)) :
    Calls Tryz.prog 100 #[v, .func (.func 47) #[] #[]] w fun e w' => ∃ z : Nat, e = .returned (.int .i64 (z : Nat)) ∧ Drawn w w' := by
  obtain ⟨a, b, o, c, rfl, hs⟩ := hv
  have HH := Lib.hid hit
  clear hit
  go_enter Tryz.func100, Tryz.ntmps100
  go_wp2
  go_loopw [5, 8] (fun _ i wr => ∃ k : Nat, k ≤ n ∧ i = .int .i64 (k : Nat) ∧ Hid (∀ i, i < k → ¬ (f i < 1 ∨ 1000 < f i)) ∧ Hid (Drawn w wr)) (fun _ i _ => n - (intOf i).toNat)
  case atStart => exact ⟨0, by omega, rfl, Lib.hid (fun i hi => by omega), Lib.hid (Drawn.refl _)⟩
  case round =>
    obtain ⟨k, hk, rfl, HG, hd⟩ := hrel
    by_cases h : k < n
    · have hix := fun W => ixI hs k c h W
      have hc := (hs.drawn hd.out).cell k h
      simp only [ic] at hc
      by_cases hb : (f k < 1 ∨ 1000 < f k)
      · have HB := Lib.hid hb
        clear hb
        go_wp2_with (go_at_call 47; (with_reducible refine (lay_yes _ _ HB.out).mono ?_); rintro e w' ⟨rfl, rfl⟩)
        go_ret
        exact ⟨k, rfl, hd.out⟩
      · have HB := Lib.hid hb
        clear hb
        go_wp2_with (go_at_call 47; (with_reducible refine (lay_not _ _ HB.out).mono ?_); rintro e w' ⟨rfl, rfl⟩)
        go_roundw
        case rel => exact ⟨k + 1, by omega, by go_num, Lib.hid (ext_lt2 (n := n) HG.out HB.out), hd⟩
        case measure => simp [intOf]; omega
    · exfalso
      obtain ⟨i, hi, hb⟩ := HH.out
      exact HG.out i (by omega) hb
theorem lay_miss (v : Value) (n : Nat) (f : Nat → Int) (w : World) (hv : Ints w v n f) (hn : n ≤ 1048576) (miss : ∀ i, i < n → ¬ (f i < 1 ∨ 1000 < f i)) :
    Calls Tryz.prog 100 #[v, .func (.func 47) #[] #[]] w fun e w' => e = .returned (.int .i64 (-1)) ∧ Drawn w w' := by
  obtain ⟨a, b, o, c, rfl, hs⟩ := hv
  have HH := Lib.hid miss
  clear miss
  go_enter Tryz.func100, Tryz.ntmps100
  go_wp2
  go_loopw [5, 8] (fun _ i wr => ∃ k : Nat, k ≤ n ∧ i = .int .i64 (k : Nat) ∧ Hid (Drawn w wr)) (fun _ i _ => n - (intOf i).toNat)
  case atStart => exact ⟨0, by omega, rfl, Lib.hid (Drawn.refl _)⟩
  case round =>
    obtain ⟨k, hk, rfl, hd⟩ := hrel
    by_cases h : k < n
    · have hix := fun W => ixI hs k c h W
      have hc := (hs.drawn hd.out).cell k h
      simp only [ic] at hc
      have HB := Lib.hid (HH.out k h)
      go_wp2_with (go_at_call 47; (with_reducible refine (lay_not _ _ HB.out).mono ?_); rintro e w' ⟨rfl, rfl⟩)
      go_roundw
      case rel => exact ⟨k + 1, by omega, by go_num, hd⟩
      case measure => simp [intOf]; omega
    · go_wp2
      go_ret
      exact ⟨rfl, hd.out⟩
theorem lay_cont (v : Value) (n : Nat) (f : Nat → Int) (r : Bool) (hr : r = true ↔ ∃ i, i < n ∧ (f i < 1 ∨ 1000 < f i)) (w : World) (hv : Ints w v n f) (hn : n ≤ 1048576) :
    Calls Tryz.prog 48 #[v, .func (.func 47) #[] #[]] w fun e w' => e = .returned (.bool r) ∧ Drawn w w' := by
  have HV := Lib.hid hv
  obtain ⟨a, b, o, c, rfl, hs⟩ := hv
  clear hs
  cases r with
  | true =>
    have HH := Lib.hid (hr.1 rfl)
    clear hr
    go_enter Tryz.func48, Tryz.ntmps48
    go_wp2_with (go_at_call 100; (with_reducible refine (lay_hit _ n f _ HV.out hn HH.out).mono ?_); rintro e w' ⟨z, rfl, hd⟩; have hz : decide ((0 : Int) ≤ (z : Int)) = true := (by simp))
    go_ret
    exact ⟨rfl, hd⟩
  | false =>
    have HH := Lib.hid (show ∀ i, i < n → ¬ (f i < 1 ∨ 1000 < f i) from fun i hi hb => by have := hr.2 ⟨i, hi, hb⟩; cases this)
    clear hr
    go_enter Tryz.func48, Tryz.ntmps48
    go_wp2_with (go_at_call 100; (with_reducible refine (lay_miss _ n f _ HV.out hn HH.out).mono ?_); rintro e w' ⟨rfl, hd⟩)
    go_ret
    exact ⟨rfl, hd⟩
end Go.Proofs.YtolkchkedieppaaGreat

/- Lay of package hide at sizes in range. -/
namespace Go.Proofs.YtolkchkedieppaaGreat
open Go.RowKit
attribute [local go_sem ↓] Go.wp_at_zero Go.wp_at_succ
/-- squares as cells -/
def sqC (q : Sq) : List Value := [.int .i64 (q.x : Nat), .int .i64 q.y, .int .i64 (q.s : Nat)]
def sqL : List Sq → List Value
  | [] => []
  | q :: l => sqC q ++ sqL l
theorem sqL_app (a b : List Sq) : sqL (a ++ b) = sqL a ++ sqL b := by
  induction a with
  | nil => rfl
  | cons x a ih => simp [sqL, ih]
theorem infoS : (Tryz.prog.info? 47).map (fun i => (i.zero, i.size, i.bytes)) = some (some (.agg #[.int .i64 0, .int .i64 0, .int .i64 0]), 3, 24) := by kernel_rfl
theorem newS (w : World) (x : Sq) (t : TypeId) : ∀ j u, (sqC x)[j]? = some u → (w.alloc (.cells (sqC x).toArray t)).cell? ((⟨w.heap.size, 0, none⟩ : Addr).add j) = some u := fun j u hj => by
  have hadd : (⟨w.heap.size, 0, none⟩ : Addr).add j = ⟨w.heap.size, j, none⟩ := by unfold Addr.add; split <;> simp_all
  rw [hadd]
  simp [go_sem]
  exact hj
theorem oneS (x : Sq) : ∀ u ∈ sqC x, u.oneCell' = true := fun u hu => by
  simp [sqC] at hu
  rcases hu with rfl | rfl | rfl <;> rfl
theorem infoF : (Tryz.prog.info? 3).map (fun i => (i.zero, i.size, i.bytes)) = some (some (.int .i64 0), 1, 8) := by kernel_rfl
/-- what Lay keeps -/
structure LayM (w wr : World) (g W B : Nat) (F : Nat → Int) (vo : Value) (out : List Sq) : Prop where
  row : wr.rowIs g 3 W (ic F)
  out : wr.ownsRow B 47 3 vo out.length (sqL out)
  far : g < B
  lb : B ≤ wr.heap.size
  old : w.heap.size ≤ g
  below : Below w.heap.size w wr
section
variable {w wr : World} {g W B : Nat} {F : Nat → Int} {vo : Value} {out : List Sq}
theorem LayM.drawn {w' : World} (h : LayM w wr g W B F vo out) (hd : Drawn wr w') : LayM w w' g W B F vo out :=
  ⟨rowIs_below h.row (hd.below wr.heap.size) h.row.lt, own_kept h.out (hd.below _), h.far, Nat.le_trans h.lb (hd.below wr.heap.size).size, h.old, h.below.trans (hd.below _)⟩
theorem LayM.push {w5 : World} {v' : Value} {x : Sq} (h : LayM w wr g W B F vo out) (ob : Obj) (hgrow : (wr.alloc ob).grownBy w5 vo.ownBlock) (hown : w5.ownsRow B 47 3 v' (out.length + 1) (sqL out ++ sqC x)) :
    LayM w w5 g W B F v' (out ++ [x]) := by
  have hB : Below B wr w5 := ((Below.refl B wr).alloc h.lb ob).grown hgrow (by simp; have := h.lb; omega) (fun kk e => (h.out.lt kk e).1)
  refine ⟨rowIs_below h.row hB h.far, ?_, h.far, Nat.le_trans h.lb hB.size, h.old, h.below.trans (hB.mono (by have := h.old; have := h.far; omega))⟩
  rw [sqL_app, List.length_append]
  simp only [sqL, List.append_nil]
  exact hown
theorem LayM.put {w' : World} {F' : Nat → Int} (h : LayM w wr g W B F vo out) (hr : w'.rowIs g 3 W (ic F')) (hg : wr.grownBy w' (some g)) : LayM w w' g W B F' vo out := by
  refine ⟨hr, h.out.kept hg ?_, h.far, Nat.le_trans h.lb hg.size, h.old, h.below.trans ⟨hg.os, hg.tape, hg.output, hg.size, fun k hk => hg.block k (by have := h.below.size; omega) (fun e => by injection e with e; have := h.old; omega)⟩⟩
  rcases hv : vo.ownBlock with _ | k
  · exact .inl rfl
  · right
    intro e
    injection e with e
    have := (h.out.lt k hv).1
    have := h.far
    omega
end
theorem layF_take {W : Nat} {S : List Nat} {F0 : Nat → Int} {k : Nat} (h : k < S.length) {out : List Sq} {F : Nat → Int} (e : layF W (S.take k) F0 [] = some (out, F)) :
    layF W (S.take (k + 1)) F0 [] = if FitP W F (S.getD k 0) then some (out ++ [⟨minAt F (W - 1), F (minAt F (W - 1)), S.getD k 0⟩], putF F (minAt F (W - 1)) (S.getD k 0)) else none := by
  have e1 : S.take (k + 1) = S.take k ++ [S.getD k 0] := by rw [List.take_add_one]; simp [h]
  rw [e1, layF_app, e]
  rfl
theorem layF_none {W : Nat} {S : List Nat} {F0 : Nat → Int} : ∀ k, layF W (S.take k) F0 [] = none → layF W S F0 [] = none := fun k h => by
  have : ∀ (l m : List Nat) (F : Nat → Int) (out : List Sq), layF W l F out = none → layF W (l ++ m) F out = none := fun l => by
    induction l with
    | nil => intro m F out h; cases h
    | cons x l ih =>
      intro m F out h
      simp only [List.cons_append, layF] at h ⊢
      split
      · rename_i q; rw [if_pos q] at h; exact ih m _ _ h
      · rfl
  have h2 := this (S.take k) (S.drop k) F0 [] h
  rwa [List.take_append_drop] at h2
theorem getD_mem {S : List Nat} {k : Nat} (h : k < S.length) : S.getD k 0 ∈ S := by simp [h]
set_option maxHeartbeats 4000000 in
set_option maxRecDepth 100000 in
theorem lay_good (v : Value) (W : Nat) (S : List Nat) (w : World) (hv : Ints w v S.length (eF S)) (hW : 1 ≤ W) (hW2 : W ≤ 1000) (hS0 : 0 < S.length) (hS24 : S.length ≤ 24) (hS : ∀ s ∈ S, 1 ≤ s ∧ s ≤ 1000) :
    Calls Tryz.prog 15 #[.int .i64 (W : Nat), v] w fun e w' =>
      ((∃ out F, layF W S (fun _ => 0) [] = some (out, F) ∧ Lvl W F ∧ ∃ va vk, e = .returned (.tuple #[.slice va out.length vk, .int .i64 0]) ∧ w'.ownsRow w.heap.size 47 3 (.slice va out.length vk) out.length (sqL out)) ∨
        ((∀ out F, layF W S (fun _ => 0) [] = some (out, F) → ¬ Lvl W F) ∧ e = .returned (.tuple #[.slice none 0 0, .int .i64 5]))) ∧ Below w.heap.size w w' := by
  have HI := Lib.hid hv
  obtain ⟨sa, sb, so, sc, rfl, hs⟩ := hv
  have HS := Lib.hid hs
  have HSS := Lib.hid hS
  obtain ⟨i0, hinf, hz0, hz1, hz2⟩ := info_parts infoS
  have d1 : decide ((24 : Int) < ((S.length : Nat) : Int)) = false := by simp; omega
  have d1n : decide (24 < S.length) = false := by simp; omega
  have d2 : (((S.length : Nat) : Int) == 0) = false := by rw [beq_eq_false_iff_ne]; omega
  have d2n : (S.length == 0) = false := by rw [beq_eq_false_iff_ne]; omega
  have HNB : Hid ((false : Bool) = true ↔ ∃ i, i < S.length ∧ (eF S i < 1 ∨ 1000 < eF S i)) := Lib.hid ⟨fun q => Bool.noConfusion q, fun ⟨i, hi, q⟩ => by
    exfalso
    have := hS _ (getD_mem hi)
    unfold eF at q
    omega⟩
  have hmk := run_make_row' (P := Tryz.prog) 84 3 (.int .i64 0) 8 Tryz.underlying84 infoF rfl .i64 .i64 W (by omega) (by omega)
  clear hs hS
  go_enter Tryz.func15, Tryz.ntmps15
  go_wp2_with (first
    | (go_at_call 47; (with_reducible refine (lay_not _ _ (by omega)).mono ?_); rintro e w1 ⟨rfl, rfl⟩)
    | (go_at_call 48; (with_reducible refine (lay_cont _ S.length (eF S) false HNB.out _ HI.out (by omega)).mono ?_); rintro e w2 ⟨rfl, hd⟩; have HD := Lib.hid hd; clear hd))
  generalize hgw : w2.heap.size = g
  have hBW : w.heap.size ≤ g := by rw [← hgw]; exact (HD.out.below w.heap.size).size
  have L0 : Hid (LayM w (w2.alloc (.cells (madeCells #[.int .i64 0] W) 3)) g W (g + 1) (fun _ => 0) (.slice none 0 0) []) := Lib.hid (by
    rw [← hgw] at hBW ⊢
    exact ⟨World.rowIs_made w2 (.int .i64 0) W 3, World.ownsRow_nil _ _ _ _, by omega, by simp, hBW, (HD.out.below w.heap.size).alloc hBW _⟩)
  have LE0 : Hid (layF W (S.take 0) (fun _ => 0) [] = some ([], fun _ => 0)) := Lib.hid rfl
  have HS2 := Lib.hid (HS.out.drawn HD.out)
  go_loopw [8, 10, 11, 12, 35] (fun v8 v10 v11 v12 v35 wr => ∃ (k : Nat) (out : List Sq) (F : Nat → Int) (vo : Value), k ≤ S.length ∧ v35 = .int .i64 (k : Nat) ∧ vo = v8 ∧ Hid (out.length = k) ∧ Hid (layF W (S.take k) (fun _ => 0) [] = some (out, F)) ∧ Hid (∀ i, 0 ≤ F i ∧ F i ≤ 1000) ∧ Hid (LayM w wr g W (g + 1) F vo out)) (fun _ _ _ _ v35 _ => S.length - (intOf v35).toNat)
  case atStart => exact ⟨0, [], fun _ => 0, _, by omega, rfl, rfl, Lib.hid rfl, LE0, Lib.hid (fun _ => by simp), L0⟩
  case round =>
    clear L0 LE0 hmk
    obtain ⟨k, out, F, vo, hk, rfl, rfl, HOL, LE, FR, LM⟩ := hrel
    obtain ⟨va, vk, rfl⟩ := own_shape LM.out.out
    have hln : out.length ≤ 24 := by have := HOL.out; omega
    have HIF := Lib.hid (show Ints wr (.slice (some ⟨g, 0, none⟩) W W) W F from ⟨_, _, _, _, rfl, rowIs_sl LM.out.row⟩)
    by_cases h : k < S.length
    · have e1 : decide ((k : Int) < ((S.length : Nat) : Int)) = true := by simpa using h
      have e1n : decide (k < S.length) = true := by simpa using h
      have hix := fun W' => ixI HS2.out k sc h W'
      have hc := (HS.out.mono LM.out.below (Nat.le_refl _)).cell k h
      simp only [ic, eF] at hc
      have hsr := HSS.out _ (getD_mem h)
      obtain ⟨s, hs⟩ : ∃ s, s = S.getD k 0 := ⟨_, rfl⟩
      rw [← hs] at hc hsr
      have HSK := Lib.hid hs
      clear hs
      go_upto_region 12 with (go_at_call 49; (with_reducible refine (fnext_any _ W F _ HIF.out hW hW2).mono ?_); rintro e w3 ⟨r, hrun, rfl, hd⟩; have HRUN := Lib.hid hrun; have LM := Lib.hid (LM.out.drawn hd); clear hrun hd)
      clear hix hc
      have hp := minAt_le F (W - 1)
      have hrl := HRUN.out.le
      have hfit := HRUN.out.fit (s := s)
      obtain ⟨p, hpe⟩ : ∃ p, p = minAt F (W - 1) := ⟨_, rfl⟩
      have hfr := FR.out p
      rw [← hpe] at hp hrl hfit ⊢
      have HPE := Lib.hid hpe
      have HFIT := Lib.hid hfit
      clear hfit hpe
      have hpW : p < W := by omega
      have ipx := fun W' => ixFl (rowIs_sl LM.out.row) p W hpW W'
      have cp := LM.out.row.cell (i := p) hpW
      simp only [ic, Nat.zero_add] at ipx cp
      have hwr : IntKind.i64.wrap (F p + (s : Int)) = F p + (s : Int) := by rw [IntKind.wrap_i64]; omega
      by_cases h1 : r < s
      · have e2 : decide ((r : Int) < (s : Int)) = true := by simpa using h1
        have e2n : decide (r < s) = true := by simpa using h1
        have HNF : Hid (¬ FitP W F s) := Lib.hid (fun q => by have := (HFIT.out.1 q).1; omega)
        clear h1
        go_wp2_with fail
        go_ret2
        refine ⟨.inr ⟨fun o F' e' => ?_, rfl⟩, LM.out.below⟩
        have := layF_none (k + 1) (by rw [layF_take h LE.out, ← HSK.out, if_neg HNF.out])
        rw [this] at e'; cases e'
      · have e2 : decide ((r : Int) < (s : Int)) = false := by simpa using h1
        have e2n : decide (r < s) = false := by simpa using h1
        by_cases h2 : 1000 < F p + (s : Int)
        · have e3 : decide ((1000 : Int) < F p + (s : Int)) = true := by simpa using h2
          have HNF : Hid (¬ FitP W F s) := Lib.hid (fun q => by have := (HFIT.out.1 q).2; omega)
          clear h1 h2
          go_wp2_with fail
          go_ret2
          refine ⟨.inr ⟨fun o F' e' => ?_, rfl⟩, LM.out.below⟩
          have := layF_none (k + 1) (by rw [layF_take h LE.out, ← HSK.out, if_neg HNF.out])
          rw [this] at e'; cases e'
        · have e3 : decide ((1000 : Int) < F p + (s : Int)) = false := by simpa using h2
          have HYF : Hid (FitP W F s) := Lib.hid (HFIT.out.2 ⟨by omega, by omega⟩)
          have hps : p + s ≤ W := by omega
          have HFB : Hid (∀ i, i < W → -1000 ≤ F i ∧ F i ≤ 1000) := Lib.hid (fun i _ => by have := FR.out i; omega)
          have LE2 : Hid (layF W (S.take (k + 1)) (fun _ => 0) [] = some (out ++ [⟨p, F p, s⟩], putF F p s)) := Lib.hid (by rw [layF_take h LE.out, ← HSK.out, if_pos HYF.out, ← HPE.out])
          have FR2 : Hid (∀ i, 0 ≤ putF F p s i ∧ putF F p s i ≤ 1000) := Lib.hid (layF_range W _ _ _ _ _ (fun i => by simp) LE2.out).1
          clear h1 h2
          have hlb := LM.out.lb
          go_wp2_with (first
            | (at_builtin; refine wpList_append_own_at _ rfl (.tmp 56) (.tmp 64) 23 rfl (g + 1) 47 i0 _ 3 24 Tryz.underlying23 hinf hz0 hz1 hz2 rfl (by decide) (.slice va out.length vk) out.length (sqL out) rfl (LM.out.out.alloc _) ⟨w3.heap.size, 0, none⟩ 1 1 (sqC ⟨p, F p, s⟩) rfl rfl (newS w3 ⟨p, F p, s⟩ _) (oneS ⟨p, F p, s⟩) (by unfold maxLen; omega) (by omega) (by simp; omega) ?_; intro v' w5 hown hgrow _ hbk; have LM := Lib.hid (LM.out.push (x := ⟨p, F p, s⟩) _ hgrow hown); obtain ⟨vb, vc, rfl⟩ := own_shape hown; clear hown hgrow hbk)
            | (go_at_call 50; (with_reducible refine (fput_any g W s p (s : Int) F _ LM.out.row hps hW2 HFB.out (by omega)).mono ?_); rintro e w6 ⟨rfl, hr, hgr⟩; have LM := Lib.hid (LM.out.put hr hgr); clear hr hgr))
          go_roundw
          case rel => exact ⟨k + 1, _, _, _, by omega, by go_num, rfl, Lib.hid (by simp; exact HOL.out), LE2, FR2, LM⟩
          case measure => simp [intOf]; omega
    · have hke : k = S.length := by omega
      have e1 : decide ((k : Int) < ((S.length : Nat) : Int)) = false := by simp; omega
      have e1n : decide (k < S.length) = false := by simpa using h
      have LEE : Hid (layF W S (fun _ => 0) [] = some (out, F)) := Lib.hid (by have := LE.out; rw [hke, List.take_length] at this; exact this)
      have hlv := lvl_iff (F := F) hW
      clear hke h
      by_cases hl : Lvl W F
      · have e2 : (F (minAt F (W - 1)) != maxTo F (W - 1)) = false := by have := hlv.2 hl; simpa using this
        have HLV := Lib.hid hl
        clear hl hlv
        go_wp2_with (first
          | (go_at_call 51; (with_reducible refine (fmin_any _ W F _ HIF.out hW hW2).mono ?_); rintro e w7 ⟨rfl, rfl⟩)
          | (go_at_call 52; (with_reducible refine (fmax_any _ W F _ HIF.out hW hW2).mono ?_); rintro e w7 ⟨rfl, rfl⟩))
        go_ret2
        exact ⟨.inl ⟨out, F, LEE.out, HLV.out, va, vk, rfl, own_base LM.out.out (by omega)⟩, LM.out.below⟩
      · have e2 : (F (minAt F (W - 1)) != maxTo F (W - 1)) = true := by rw [bne_iff_ne]; exact fun e => hl (hlv.1 e)
        have HLV := Lib.hid hl
        clear hl hlv
        go_wp2_with (first
          | (go_at_call 51; (with_reducible refine (fmin_any _ W F _ HIF.out hW hW2).mono ?_); rintro e w7 ⟨rfl, rfl⟩)
          | (go_at_call 52; (with_reducible refine (fmax_any _ W F _ HIF.out hW hW2).mono ?_); rintro e w7 ⟨rfl, rfl⟩))
        go_ret2
        refine ⟨.inr ⟨fun o F' e' => ?_, rfl⟩, LM.out.below⟩
        rw [LEE.out] at e'
        injection e' with e'
        injection e' with e1' e2'
        rw [← e2']; exact HLV.out
end Go.Proofs.YtolkchkedieppaaGreat
