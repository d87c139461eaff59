/- Settle, plainly: a sorted row of payments. -/
import Derived.Test.YtcnaagiicpkcpaaGreatMGrpC
import Derived.Sort.Statements
set_option linter.unusedVariables false
set_option linter.unusedSimpArgs false
namespace Go.Proofs.YtcnaagiicpkcpaaGreat
instance : Inhabited Pmt := ⟨⟨0, 0, 0⟩⟩
/-- how Settle compares payments -/
def cmpP (a b : Pmt) : Int := if a.fr < b.fr then -1 else if b.fr < a.fr then 1 else if a.rc < b.rc then -1 else if b.rc < a.rc then 1 else 0
theorem cmpP_lt (a b : Pmt) : cmpP a b < 0 ↔ ltK a b := by
 unfold cmpP ltK
 split
 ·simp; omega
 ·split
  ·simp; omega
  ·split
   ·simp; omega
   ·split
    ·simp; omega
    ·simp; omega
theorem get_list (d : Array Pmt) (i : Nat) (h : i < d.size) : d[i]! = d.toList[i]'(by simpa using h) := by
 rw [getElem!_pos d i h]; simp
theorem perm_of {d d' : Array Pmt} (h : Go.Sort.PermIn 0 d.size d d') : d.toList.Perm d'.toList := by
 obtain ⟨h1, _, h3⟩ := h
 have e1 : d.extract 0 d.size = d := by simp
 have e2 : d'.extract 0 d.size = d' := by rw [← h1]; simp
 rw [e1, e2] at h3
 exact h3.symm
theorem sorted_of {d d' : Array Pmt} {lt : Pmt → Pmt → Bool} (hl : ∀ a b, lt a b = decide (cmpP a b < 0)) (hs : d'.size = d.size) (h : Go.Sort.SortedIn lt 0 d.size d') : d'.toList.Pairwise (fun a b => ¬ ltK b a) := by
 rw [List.pairwise_iff_getElem]
 intro i j hi hj hij
 have hi' : i < d'.size := by simpa using hi
 have hj' : j < d'.size := by simpa using hj
 have := h i j (Nat.zero_le _) hij (by omega)
 rw [hl, get_list d' i hi', get_list d' j hj', decide_eq_false_iff_not, cmpP_lt] at this
 exact this
theorem swo_cmpP {lt : Pmt → Pmt → Bool} (hl : ∀ a b, lt a b = decide (cmpP a b < 0)) : Go.Sort.SWO lt where
 irrefl x := by rw [hl, decide_eq_false_iff_not, cmpP_lt]; unfold ltK; omega
 trans x y z h1 h2 := by
  rw [hl, decide_eq_true_iff, cmpP_lt] at *
  unfold ltK at *; omega
 ntrans x y z h1 h2 := by
  rw [hl, decide_eq_false_iff_not, cmpP_lt] at *
  unfold ltK at *; omega
end Go.Proofs.YtcnaagiicpkcpaaGreat

/- Settle's closures: the first firm of a group that still has to pay, or to receive. -/
namespace Go.Proofs.YtcnaagiicpkcpaaGreat
open Go.RowKit
attribute [local go_sem ↓] Go.wp_at_zero Go.wp_at_succ
/-- no member below k has the sign -/
def NoHit (v : Nat → Int) (sg : Int) (G : List Nat) (k : Nat) : Prop := ∀ j, j < k → ¬ 0 < v (G.getD j 0) * sg
/-- member k is the first with the sign -/
structure HitAt (v : Nat → Int) (sg : Int) (G : List Nat) (k : Nat) : Prop where
 lt : k < G.length
 hit : 0 < v (G.getD k 0) * sg
 first : NoHit v sg G k
/-- what is left, in a variable of its own -/
structure LeftM (w : World) (n lb gl cl : Nat) (v : Nat → Int) : Prop where
 box : w.cell? ⟨lb, 0, none⟩ = some (.slice (some ⟨gl, 0, none⟩) n cl)
 row : IsSl w (some ⟨gl, 0, none⟩) gl 0 cl n (ic v)
 lt : lb < w.heap.size
theorem LeftM.below {w w' : World} {n lb gl cl : Nat} {v : Nat → Int} (h : LeftM w n lb gl cl v) (hb : Below w.heap.size w w') : LeftM w' n lb gl cl v :=
 ⟨(hb.cell (p := ⟨lb, 0, none⟩) h.lt).trans h.box, h.row.mono hb (Nat.le_refl _), Nat.lt_of_lt_of_le h.lt hb.size⟩
theorem find1_any (w : World) (n lb gl cl sb i : Nat) (v : Nat → Int) (sg : Int) (hL : LeftM w n lb gl cl v) (hs : w.cell? ⟨sb, 0, none⟩ = some (.int .i64 sg)) (hi : i < n) (hv : -10000 ≤ v i ∧ v i ≤ 10000) (hg : sg = 1 ∨ sg = -1) (r : Bool) (hr : r = true ↔ 0 < v i * sg) :
  Calls Tryz.prog 19 #[.int .i64 (i : Nat), .pointer (some ⟨lb, 0, none⟩), .pointer (some ⟨sb, 0, none⟩)] w fun e w' => e = .returned (.bool r) ∧ Drawn w w' := by
 have hc := hL.row.cell i hi
 have hix := fun W => ixI hL.row i cl hi W
 have hb := hL.box
 simp only [ic, Nat.zero_add] at hc hix
 have hm : IntKind.i64.wrap (v i * sg) = v i * sg := by rw [IntKind.wrap_i64]; rcases hg with e | e <;> subst e <;> omega
 have HD : Hid (decide (0 < v i * sg) = r) := Lib.hid (by
  cases r
  ·rw [decide_eq_false_iff_not]; intro q; have := hr.2 q; cases this
  ·rw [decide_eq_true_iff]; exact hr.1 rfl)
 clear hr hv hL hg
 go_enter Tryz.func19, Tryz.ntmps19
 go_wp2
 go_quiet (fail)
 go_wp2
 go_ret
 all_goals (refine ⟨?_, Drawn.of _ _⟩; rw [← HD.out]; rfl)
theorem find2_any (w : World) (n lb gl cl sb : Nat) (v : Nat → Int) (sg : Int) (G : List Nat) (vg : Value) (hL : LeftM w n lb gl cl v) (hs : w.cell? ⟨sb, 0, none⟩ = some (.int .i64 sg)) (hG : Ints w vg G.length (lsF G)) (hn : G.length ≤ 1048576) (hm : ∀ j, j < G.length → G.getD j 0 < n) (hv : ∀ i, i < n → -10000 ≤ v i ∧ v i ≤ 10000) (hg : sg = 1 ∨ sg = -1) :
  Calls Tryz.prog 18 #[vg, .func (.func 19) #[] #[.pointer (some ⟨lb, 0, none⟩), .pointer (some ⟨sb, 0, none⟩)]] w fun e w' =>
   ((e = .returned (.int .i64 (-1)) ∧ NoHit v sg G G.length) ∨ ∃ k : Nat, e = .returned (.int .i64 (k : Nat)) ∧ HitAt v sg G k) ∧ Drawn w w' := by
 obtain ⟨a, b, o, c, rfl, hs2⟩ := hG
 have HS := Lib.hid hs2
 have HL := Lib.hid hL
 have HSB := Lib.hid hs
 have HM := Lib.hid hm
 have HV := Lib.hid hv
 clear hs2 hL hs hm hv
 go_enter Tryz.func18, Tryz.ntmps18
 go_wp2
 go_loopw [5, 8] (fun _ i wr => ∃ k : Nat, k ≤ G.length ∧ i = .int .i64 (k : Nat) ∧ Hid (NoHit v sg G k) ∧ Hid (Drawn w wr)) (fun _ i _ => G.length - (intOf i).toNat)
 case atStart => exact ⟨0, by omega, rfl, Lib.hid (fun i hi => by omega), Lib.hid (Drawn.refl _)⟩
 case round =>
  obtain ⟨k, hk, rfl, HG, hd⟩ := hrel
  by_cases h : k < G.length
  ·have e1 : decide ((k : Int) < ((G.length : Nat) : Int)) = true := by simpa using h
   have e1n : decide (k < G.length) = true := by simpa using h
   have hix := fun W => ixI HS.out k c h W
   have hc := (HS.out.drawn hd.out).cell k h
   simp only [ic, lsF] at hc
   have hmk := HM.out k h
   have HVk := Lib.hid (HV.out _ hmk)
   obtain ⟨x, hx⟩ : ∃ x, x = G.getD k 0 := ⟨_, rfl⟩
   rw [← hx] at hc hmk HVk
   have HX := Lib.hid hx
   have LM := Lib.hid (HL.out.below (hd.out.below _))
   have SB := Lib.hid (show wr.cell? ⟨sb, 0, none⟩ = some (.int .i64 sg) by obtain ⟨q, hq⟩ := hd.out; rw [hq]; exact HSB.out)
   clear hx
   by_cases hb : 0 < v x * sg
   ·have HB := Lib.hid hb
    clear hb
    go_wp2_with (go_at_call 19; (with_reducible refine (find1_any _ n lb gl cl sb x v sg LM.out SB.out hmk HVk.out hg true ⟨fun _ => HB.out, fun _ => rfl⟩).mono ?_); rintro e w' ⟨rfl, hd2⟩)
    go_ret
    exact ⟨.inr ⟨k, rfl, h, by rw [← HX.out]; exact HB.out, HG.out⟩, hd.out.trans hd2⟩
   ·have HB := Lib.hid hb
    clear hb
    go_wp2_with (go_at_call 19; (with_reducible refine (find1_any _ n lb gl cl sb x v sg LM.out SB.out hmk HVk.out hg false ⟨fun q => Bool.noConfusion q, fun q => absurd q HB.out⟩).mono ?_); rintro e w' ⟨rfl, hd2⟩; have HD2 := Lib.hid hd2; clear hd2)
    go_roundw
    case rel => exact ⟨k + 1, by omega, by go_num, Lib.hid (fun j hj => by
     by_cases e : j = k
     ·rw [e, ← HX.out]; have := HB.out; omega
     ·exact HG.out j (by omega)), Lib.hid (hd.out.trans HD2.out)⟩
    case measure => simp [intOf]; omega
  ·obtain rfl : k = G.length := by omega
   have e1 : decide (((G.length : Nat) : Int) < ((G.length : Nat) : Int)) = false := by simp
   go_wp2
   go_ret
   exact ⟨.inl ⟨rfl, HG.out⟩, hd.out⟩
theorem find_any (w : World) (n lb gl cl : Nat) (v : Nat → Int) (sg : Int) (G : List Nat) (vg : Value) (hL : LeftM w n lb gl cl v) (hG : Ints w vg G.length (lsF G)) (hn : G.length ≤ 1048576) (hm : ∀ j, j < G.length → G.getD j 0 < n) (hv : ∀ i, i < n → -10000 ≤ v i ∧ v i ≤ 10000) (hg : sg = 1 ∨ sg = -1) :
  Calls Tryz.prog 17 #[vg, .int .i64 sg, .pointer (some ⟨lb, 0, none⟩)] w fun e w' =>
   ((e = .returned (.int .i64 (-1)) ∧ NoHit v sg G G.length) ∨ ∃ k : Nat, e = .returned (.int .i64 (k : Nat)) ∧ HitAt v sg G k) ∧ Below w.heap.size w w' := by
 have HB := Lib.hid ((Below.refl w.heap.size w).alloc (Nat.le_refl _) (.cells #[.int .i64 sg] 3))
 have HL := Lib.hid (hL.below HB.out)
 have HG := Lib.hid (hG.mono HB.out (Nat.le_refl _))
 have HC : Hid ((w.alloc (.cells #[.int .i64 sg] 3)).cell? ⟨w.heap.size, 0, none⟩ = some (.int .i64 sg)) := Lib.hid (by simp)
 have HM := Lib.hid hm
 have HV := Lib.hid hv
 clear hL hG hm hv
 go_enter Tryz.func17, Tryz.ntmps17
 go_wp2_with (go_at_call 18; (with_reducible refine (find2_any _ n lb gl cl w.heap.size v sg G vg HL.out HC.out HG.out hn HM.out HV.out hg).mono ?_); rintro e w' ⟨(⟨rfl, hq⟩ | ⟨k, rfl, hq⟩), hd⟩)
 ·go_ret
  exact ⟨.inl ⟨rfl, hq⟩, HB.out.trans (hd.below _)⟩
 ·go_ret
  exact ⟨.inr ⟨k, rfl, hq⟩, HB.out.trans (hd.below _)⟩
end Go.Proofs.YtcnaagiicpkcpaaGreat
