/- copied of package debt: a matrix in memory of its own. -/
import Derived.Test.YtcnaagiicpkcpaaGreatMFun
import Derived.Test.YtcnaagiicpkcpaaGreatMRing
import Derived.Test.YtcnaagiicpkcpaaGreatMLive1
import Derived.Test.YtcnaagiicpkcpaaGreatMMkt2
import Derived.Deep.AppendLies
import Derived.BigRegion
set_option linter.unusedVariables false
set_option linter.unusedSimpArgs false
namespace Go.Proofs.YtcnaagiicpkcpaaGreat
open Go.RowKit
attribute [local go_sem ↓] Go.wp_at_zero Go.wp_at_succ
/-- a matrix of n rows of n integers in blocks of the call's own: block R holds the rows, block R + 1 + i row i -/
structure OwnMat (w : World) (R n : Nat) (r : Nat → Nat → Int) : Prop where
 top : w.rowIs R 22 n (fun i => .slice (some ⟨R + 1 + i, 0, none⟩) n n)
 row : ∀ i, i < n → w.rowIs (R + 1 + i) 3 n (ic (r i))
theorem OwnMat.isMat {w : World} {R n : Nat} {r : Nat → Nat → Int} (h : OwnMat w R n r) : IsMat w (some ⟨R, 0, none⟩) R 0 n n (fun i => some ⟨R + 1 + i, 0, none⟩) (fun i => R + 1 + i) (fun _ => 0) (fun _ => n) (fun _ => n) r :=
 ⟨rowIs_sl h.top, fun i hi => rowIs_sl (h.row i hi)⟩
theorem OwnMat.mat {w : World} {R n : Nat} {r : Nat → Nat → Int} (h : OwnMat w R n r) : Mat w (.slice (some ⟨R, 0, none⟩) n n) n (fun _ => n) r := ⟨_, _, _, _, _, _, _, _, rfl, h.isMat⟩
theorem OwnMat.below {w w' : World} {R n B : Nat} {r : Nat → Nat → Int} (h : OwnMat w R n r) (hb : Below B w w') (hB : R + 1 + n ≤ B) : OwnMat w' R n r :=
 ⟨rowIs_below h.top hb (by omega), fun i hi => rowIs_below (h.row i hi) hb (by omega)⟩
theorem OwnMat.set {w : World} {R n i j : Nat} {r : Nat → Nat → Int} (h : OwnMat w R n r) (hi : i < n) (x : Int) : OwnMat (w.setCell ⟨R + 1 + i, j, none⟩ (.int .i64 x)) R n (upd2 r i j x) :=
 ⟨h.top.setOther (by dsimp only; omega) _, fun a ha => by
  by_cases e : a = i
  ·subst e
   refine ((h.row a ha).set j _).congr fun b hb => ?_
   by_cases e2 : b = j
   ·simp [ic, upd2, e2]
   ·simp [ic, upd2, e2]
  ·refine ((h.row a ha).setOther (by dsimp only; omega) _).congr fun b hb => ?_
   simp [ic, upd2, e]⟩
theorem infoIs : (Tryz.prog.info? 22).map (fun i => (i.zero, i.size, i.bytes)) = some (some (.slice none 0 0), 1, 24) := by kernel_rfl
/-- copy into a row that was just made -/
theorem copy_new (w : World) (n : Nat) (a : Option Addr) (b o c : Nat) (f : Nat → Int) (hn : 0 < n) (h : IsSl w a b o c n (ic f)) :
  (Builtin.copy_ #[22, 22] 3 #[.slice (some ⟨w.heap.size, 0, none⟩) n n, .slice a n c]).run Tryz.prog (w.alloc (.cells (madeCells #[.int .i64 0] n) 3)) =
   .ok (.int .i64 (n : Nat)) (w.alloc (.cells (ics f n).toArray 3)) := by
 obtain rfl := h.at_ hn
 have hz : (madeCells #[Value.int .i64 0] n).size = n := size_madeCells _ _
 have e := run_copy_rowS (P := Tryz.prog) (w.alloc (.cells (madeCells #[.int .i64 0] n) 3)) 22 22 3 3 w.heap.size 0 n n ⟨b, o, none⟩ n c (madeCells #[.int .i64 0] n) 3
  (ics f n) 1 n Tryz.underlying22 (by kernel_rfl) (by unfold World.alloc; simp) (by simp) (by rw [ics_length]; omega) ?_ (by rw [ics_length, hz]; omega) (ics_one f n)
 ·have hl : ((madeCells #[Value.int .i64 0] n).toList.take 0 ++ ics f n ++ (madeCells #[Value.int .i64 0] n).toList.drop (0 + (ics f n).length)).toArray = (ics f n).toArray := by
   rw [ics_length, Nat.zero_add, List.drop_eq_nil_of_le (by rw [Array.length_toList, hz]; omega)]
   simp
  rw [e, hl, alloc_setRow]
  rfl
 ·intro j v hj
  have hlt := h.lt hn
  have hjn : j < n := by
   have := (List.getElem?_eq_some_iff.1 hj).1
   rw [ics_length] at this; exact this
  rw [ics_get f n j hjn] at hj
  have hadd : (⟨b, o, none⟩ : Addr).add j = ⟨b, o + j, none⟩ := by unfold Addr.add; split <;> simp_all
  rw [hadd, ← Option.some.inj hj]
  exact (World.cell?_alloc_some w _ _ (by rw [h.cell j hjn]; rfl)).trans (h.cell j hjn)
theorem row_of_ics (w : World) (b n : Nat) (f : Nat → Int) (hb : b = w.heap.size) : (w.alloc (.cells (ics f n).toArray 3)).rowIs b 3 n (ic f) := by
 subst hb
 have h := World.rowIs_alloc w (ics f n).toArray 3 (ic f) (fun i hi => by simp [ics_length] at hi; simp [ics, hi])
 simpa [ics_length] using h
set_option maxHeartbeats 2000000 in
set_option maxRecDepth 100000 in
theorem copied_any (v : Value) (n : Nat) (d : Nat → Nat → Int) (w : World) (hv : Mat w v n (fun _ => n) d) (h0 : 0 < n) (hn : n ≤ 8) :
  Calls Tryz.prog 58 #[v] w fun e w' => e = .returned (.slice (some ⟨w.heap.size, 0, none⟩) n n) ∧ OwnMat w' w.heap.size n d ∧ w'.heap.size = w.heap.size + 1 + n ∧ Below w.heap.size w w' := by
 obtain ⟨a, b, o, c, ra, rb, ro, rc, rfl, hs⟩ := hv
 have hmk := run_make_row' (P := Tryz.prog) 24 22 (.slice none 0 0) 24 Tryz.underlying24 infoIs rfl .i64 .i64 n (by omega) (by omega)
 have hmk2 := run_make_row' (P := Tryz.prog) 22 3 (.int .i64 0) 8 Tryz.underlying22 infoI rfl .i64 .i64 n (by omega) (by omega)
 have HROW := Lib.hid (World.rowIs_made w (.slice none 0 0) n 22)
 have KW0 := Lib.hid ((Below.refl w.heap.size w).alloc (Nat.le_refl _) (.cells (madeCells #[.slice none 0 0] n) 22))
 have HS := Lib.hid hs
 clear hs
 go_enter Tryz.func58, Tryz.ntmps58
 go_wp2
 go_loopw [4, 5, 11] (fun _ _ v11 wr => ∃ k : Nat, k ≤ n ∧ v11 = .int .i64 (k : Nat) ∧ Hid (wr.rowIs w.heap.size 22 n (fun i => if i < k then .slice (some ⟨w.heap.size + 1 + i, 0, none⟩) n n else .slice none 0 0)) ∧
   Hid (∀ i, i < k → wr.rowIs (w.heap.size + 1 + i) 3 n (ic (d i))) ∧ Hid (wr.heap.size = w.heap.size + 1 + k) ∧ Hid (Below w.heap.size w wr)) (fun _ _ v11 _ => n - (intOf v11).toNat)
 case atStart => exact ⟨0, by omega, rfl, Lib.hid (HROW.out.congr fun i hi => by simp), Lib.hid (fun i hi => by omega), Lib.hid (by simp), KW0⟩
 case round =>
  clear KW0 HROW
  obtain ⟨k, hk, rfl, TOP, ROWS, SZ, KW⟩ := hrel
  by_cases h : k < n
  ·have hm := HS.out.mono KW.out (Nat.le_refl _)
   have hix := fun W => ixM hm.top k c h W
   have hcr := hm.top.cell k h
   have htx := fun W => ixM (rowIs_sl TOP.out) k n h W
   simp only [Nat.zero_add] at htx
   have htc := TOP.out.cell h
   rw [if_neg (Nat.lt_irrefl k)] at htc
   have htf := TOP.out.frozen k
   have hsz := SZ.out
   have hlt : w.heap.size < wr.heap.size := TOP.out.lt
   have hrw := hm.row k h
   have HRW := Lib.hid hrw
   have HSL : Hid (IsSl (wr.setCell ⟨w.heap.size, k, none⟩ (.slice (some ⟨wr.heap.size, 0, none⟩) n n)) (ra k) (rb k) (ro k) (rc k) n (ic (d k))) := Lib.hid (hrw.setCell _ htc (fun i hi e => by simp only [ic] at e; cases e))
   have hcp := copy_new (wr.setCell ⟨w.heap.size, k, none⟩ (.slice (some ⟨wr.heap.size, 0, none⟩) n n)) n (ra k) (rb k) (ro k) (rc k) (d k) h0 HSL.out
   have hss : (wr.setCell ⟨w.heap.size, k, none⟩ (.slice (some ⟨wr.heap.size, 0, none⟩) n n)).heap.size = wr.heap.size := by simp [World.setCell]
   rw [hss] at hcp
   clear hm hrw hss hsz
   go_wp2
   go_roundw
   case rel =>
    have hb1 : Below w.heap.size w ((wr.setCell ⟨w.heap.size, k, none⟩ (.slice (some ⟨wr.heap.size, 0, none⟩) n n)).alloc (.cells (ics (d k) n).toArray 3)) :=
     (KW.out.setCell (Nat.le_refl _) _).alloc (by simp only [World.setCell, Array.size_modify]; exact KW.out.size) _
    have e1 := SZ.out
    refine ⟨k + 1, by omega, by go_num, Lib.hid ?_, Lib.hid ?_, Lib.hid ?_, Lib.hid hb1⟩
    ·refine ((TOP.out.set k _).alloc _).congr fun i hi => ?_
     by_cases e : i = k
     ·subst e; rw [if_pos rfl, if_pos (by omega), e1]
     ·rw [if_neg e]
      by_cases e2 : i < k
      ·rw [if_pos e2, if_pos (by omega)]
      ·rw [if_neg e2, if_neg (by omega)]
    ·intro i hi
     by_cases e : i = k
     ·subst e
      exact row_of_ics _ _ n (d i) (by simp only [World.setCell, Array.size_modify]; omega)
     ·exact ((ROWS.out i (by omega)).setOther (by dsimp only; omega) _).alloc _
    ·simp [World.setCell]; omega
   case measure => simp [intOf]; omega
  ·obtain rfl : k = n := by omega
   go_wp2
   go_ret
   refine ⟨rfl, ⟨TOP.out.congr fun i hi => by rw [if_pos hi], ROWS.out⟩, SZ.out, KW.out⟩
end Go.Proofs.YtcnaagiicpkcpaaGreat

/- debt.groups of the example of lives(). -/
namespace Go.Proofs.YtcnaagiicpkcpaaGreat
open Go.RowKit
attribute [local go_sem ↓] Go.wp_at_zero Go.wp_at_succ
/-- the example's balances -/
def blF : Nat → Int
 | 0 => 3
 | 1 => -3
 | 2 => 2
 | _ => -1
def smF (s : Nat) : Int := ((mem s 5).map blF).foldl (· + ·) 0
def moL : List Nat := [0, 0, 0, 1, 0, 0, 0, 1, 0, 0, 0, 1, 0, 0, 0, 1, 0, 0, 0, 1, 0, 0, 0, 1, 0, 0, 0, 1, 1, 1, 1, 2]
def moF (s : Nat) : Int := ((moL.getD s 0 : Nat) : Int)
/-- the greatest of the first j -/
def pmF (s j : Nat) : Int := (((mem s 10).take j).map (fun k => moF (s - 2 ^ k))).foldl max 0
theorem mem5 : ∀ s, s < 32 → mem s 10 = mem s 5 := fun s hs => mem_done s 5 hs 5
theorem grp_facts : ∀ s, s < 32 → ∀ j, j < (mem s 10).length → (mem s 10).getD j 0 < 5 ∧ 2 ^ ((mem s 10).getD j 0) ≤ s ∧ s - 2 ^ ((mem s 10).getD j 0) < s ∧
  bits .andNot .i64 (s : Int) (2 ^ ((mem s 10).getD j 0)) = ((s - 2 ^ ((mem s 10).getD j 0) : Nat) : Int) ∧ smF (s - 2 ^ ((mem s 10).getD j 0)) + blF ((mem s 10).getD j 0) = smF s ∧ max (pmF s j) (moF (s - 2 ^ ((mem s 10).getD j 0))) = pmF s (j + 1) := by decide +kernel
theorem grp_small : ∀ s, s < 32 → -10 ≤ smF s ∧ smF s ≤ 10 ∧ 0 ≤ moF s ∧ moF s ≤ 10 ∧ (0 < s → 0 < (mem s 10).length ∧ pmF s (mem s 10).length + (if smF s = 0 then 1 else 0) = moF s) := by decide +kernel
theorem pow_wrap : ∀ K, K < 5 → IntKind.i64.wrap ((2 : Int) ^ K) = 2 ^ K ∧ RowKit.wrap64 ((2 : Int) ^ K) = 2 ^ K := by decide +kernel
def LV : Nat → Nat
 | 0 => 31
 | 1 => 28
 | _ => 0
def CV : Nat → Nat
 | 0 => 3
 | _ => 28
def LOW : Nat → Nat
 | 0 => 1
 | _ => 4
def bestF (c s : Nat) : Nat := if s < c then c else 0
theorem lv_facts : ∀ q, q < 2 → 0 < LV q ∧ LV q < 32 ∧ bits .and .i64 (LV q : Int) (-(LV q : Int)) = (LOW q : Int) ∧ LV q &&& LV q = LV q ∧ CV q ≤ LV q ∧ bits .andNot .i64 (LV q : Int) (CV q : Int) = (LV (q + 1) : Int) ∧ 0 < CV q ∧ moF (LV q) ≤ 10 := by decide +kernel
set_option synthInstance.maxSize 4000 in
set_option synthInstance.maxHeartbeats 400000 in
theorem set_facts1 : ∀ q, q < 2 → ∀ s, s < 32 → 0 < s → s &&& LV q = s → s ≤ LV q ∧ bits .and .i64 (s : Int) (LOW q : Int) = ((s &&& LOW q : Nat) : Int) ∧ bits .and .i64 ((s : Int) - 1) (LV q : Int) = (((s - 1) &&& LV q : Nat) : Int) ∧ ((s - 1) &&& LV q) < s := by decide +kernel
theorem set_facts2 : ∀ q, q < 2 → ∀ s, s < 32 → 0 < s → s &&& LV q = s → ((s - 1) &&& LV q) &&& LV q = ((s - 1) &&& LV q) ∧ bits .andNot .i64 (LV q : Int) (s : Int) = ((LV q - s : Nat) : Int) := by decide +kernel
set_option synthInstance.maxSize 4000 in
set_option synthInstance.maxHeartbeats 400000 in
theorem set_facts3 : ∀ q, q < 2 → ∀ s, s < 32 → 0 < s → s &&& LV q = s → ((s &&& LOW q ≠ 0 ∧ smF s = 0 ∧ 1 + moF (LV q - s) = moF (LV q)) ↔ s = CV q) := by decide +kernel
set_option synthInstance.maxSize 4000 in
set_option synthInstance.maxHeartbeats 400000 in
theorem set_facts4 : ∀ q, q < 2 → ∀ s, s < 32 → 0 < s → s &&& LV q = s → s = CV q → bestF (CV q) s = 0 ∧ bestF (CV q) ((s - 1) &&& LV q) = s := by decide +kernel
set_option synthInstance.maxSize 4000 in
set_option synthInstance.maxHeartbeats 400000 in
theorem set_facts5 : ∀ q, q < 2 → ∀ s, s < 32 → 0 < s → s &&& LV q = s → s ≠ CV q → bestF (CV q) ((s - 1) &&& LV q) = bestF (CV q) s := by decide +kernel
def outL (q : Nat) : List Nat := [3, 28].take q
theorem grp_zero : smF 0 = 0 ∧ moF 0 = 0 := by decide +kernel
theorem pm_zero (s : Nat) : pmF s 0 = 0 := by simp [pmF]
theorem pm_small : ∀ s, s < 32 → ∀ j, j < 6 → 0 ≤ pmF s j ∧ pmF s j ≤ 10 := by decide +kernel
/-- the two rows while set s is under way: x and y are its values -/
def rowF (F : Nat → Int) (s : Nat) (x : Int) : Nat → Int := fun i => if i < s then F i else if i = s then x else 0
theorem intC_ics (L : List Nat) : intC L = ics (fun i => ((L.getD i 0 : Nat) : Int)) L.length := by
 apply List.ext_getElem?
 intro i
 by_cases h : i < L.length
 ·rw [ics_get _ _ _ h]
  simp [intC, h, ic]
 ·rw [List.getElem?_eq_none (by simp [intC]; omega), List.getElem?_eq_none (by simp [ics]; omega)]
theorem members_ints (s : Nat) (w : World) (hs : s < 1024) :
  Calls Tryz.prog 15 #[.int .i64 (s : Nat)] w fun e w' => ∃ va vk, e = .returned (.slice va (mem s 10).length vk) ∧ Ints w' (.slice va (mem s 10).length vk) (mem s 10).length (fun i => (((mem s 10).getD i 0 : Nat) : Int)) ∧ Below w.heap.size w w' := by
 refine (members_any s w hs).mono ?_
 rintro e w' ⟨va, vk, rfl, ho, hb⟩
 rw [intC_ics] at ho
 exact ⟨va, vk, rfl, ints_of_own ho, hb⟩
theorem members_row (s : Nat) (w : World) (hs : s < 1024) (h0 : 0 < (mem s 10).length) :
  Calls Tryz.prog 15 #[.int .i64 (s : Nat)] w fun e w' => ∃ g cap, e = .returned (.slice (some ⟨g, 0, none⟩) (mem s 10).length cap) ∧ IsSl w' (some ⟨g, 0, none⟩) g 0 cap (mem s 10).length (ic (fun i => (((mem s 10).getD i 0 : Nat) : Int))) ∧ w.heap.size ≤ g ∧ Below w.heap.size w w' := by
 refine (members_any s w hs).mono ?_
 rintro e w' ⟨va, vk, rfl, ho, hb⟩
 obtain ⟨g, cap, hv, hg, hgl⟩ := ho.form h0
 cases hv
 refine ⟨g, _, rfl, ⟨?_, fun _ => rfl, fun _ => hgl, fun i hi => ?_, fun e => by cases e⟩, hg, hb⟩
 ·rcases ho.2 with ⟨h1, h2⟩ | ⟨g', cap', cur, h1, _, _, h2, _⟩
  ·omega
  ·cases h1; exact h2
 ·rw [Nat.zero_add, ho.cellAt i (by omega)]
  simp [intC, ic, hi]
theorem IsSl.setFar {w : World} {a : Option Addr} {b o c n p o' : Nat} {g : Nat → Value} (h : IsSl w a b o c n g) (hne : p ≠ b) (v : Value) : IsSl (w.setCell ⟨p, o', none⟩ v) a b o c n g :=
 ⟨h.cap, h.at_, fun q => by simp only [World.setCell, Array.size_modify]; exact h.lt q, fun i hi => (far_set _ _ _ _ _ _ hne).trans (h.cell i hi), h.nc⟩
def xF (s j : Nat) : Int := if j = 0 then 0 else smF s
/-- the tables while set s is under way -/
structure GS (w0 w : World) (A B s : Nat) (x y : Int) : Prop where
 a : w.rowIs A 3 32 (ic (rowF smF s x))
 b : w.rowIs B 3 32 (ic (rowF moF s y))
 below : Below w0.heap.size w0 w
theorem GS.drew {w0 w : World} {A B s : Nat} {x y : Int} (h : GS w0 w A B s x y) : GS w0 w.drew A B s x y := ⟨h.a.drew, h.b.drew, h.below.drew⟩
theorem GS.setA {w0 w : World} {A B s : Nat} {x y : Int} (h : GS w0 w A B s x y) (hne : A ≠ B) (hA : w0.heap.size ≤ A) (x' : Int) : GS w0 (w.setCell ⟨A, s, none⟩ (.int .i64 x')) A B s x' y :=
 ⟨(h.a.set _ _).congr fun i hi => by
   simp only [ic, rowF]
   by_cases e : i = s
   ·subst e; simp
   ·simp [e],
  h.b.setOther (by exact hne.symm) _, h.below.setCell (by exact hA) _⟩
theorem GS.setB {w0 w : World} {A B s : Nat} {x y : Int} (h : GS w0 w A B s x y) (hne : A ≠ B) (hB : w0.heap.size ≤ B) (y' : Int) : GS w0 (w.setCell ⟨B, s, none⟩ (.int .i64 y')) A B s x y' :=
 ⟨h.a.setOther (by exact hne) _, (h.b.set _ _).congr fun i hi => by
   simp only [ic, rowF]
   by_cases e : i = s
   ·subst e; simp
   ·simp [e], h.below.setCell (by exact hB) _⟩
theorem GS.next {w0 w : World} {A B s : Nat} (h : GS w0 w A B s (smF s) (moF s)) : GS w0 w A B (s + 1) 0 0 :=
 ⟨h.a.congr fun i hi => by
   simp only [ic, rowF]
   by_cases e : i = s
   ·subst e; simp
   ·by_cases e2 : i < s
    ·simp [e2, show i < s + 1 by omega]
    ·simp [e, e2, show ¬ i < s + 1 by omega],
  h.b.congr fun i hi => by
   simp only [ic, rowF]
   by_cases e : i = s
   ·subst e; simp
   ·by_cases e2 : i < s
    ·simp [e2, show i < s + 1 by omega]
    ·simp [e, e2, show ¬ i < s + 1 by omega], h.below⟩
theorem GS.below' {w0 w w' : World} {A B s : Nat} {x y : Int} (h : GS w0 w A B s x y) (hb : Below w.heap.size w w') : GS w0 w' A B s x y :=
 ⟨rowIs_below h.a hb h.a.lt, rowIs_below h.b hb h.b.lt, h.below.trans (hb.mono h.below.size)⟩
set_option maxHeartbeats 4000000 in
set_option maxRecDepth 100000 in
theorem groups_live (v : Value) (w : World) (hv : Ints w v 5 blF) :
  Calls Tryz.prog 14 #[v] w fun e w' => ∃ va vk, e = .returned (.slice va 2 vk) ∧ Ints w' (.slice va 2 vk) 2 (fun i => if i = 0 then 3 else 28) ∧ Below w.heap.size w w' := by
 obtain ⟨a, b, o, c, rfl, hs⟩ := hv
 have HV := Lib.hid hs
 have hmk := run_make_row' (P := Tryz.prog) 22 3 (.int .i64 0) 8 Tryz.underlying22 infoI rfl .i64 .i64 32 (by omega) (by omega)
 simp only [Int.cast_ofNat_Int] at hmk
 have HR0 := Lib.hid (World.rowIs_made w (.int .i64 0) 32 3)
 clear hs
 go_enter Tryz.func14, Tryz.ntmps14
 go_wp2
 go_cut [3, 4] (fun v3 v4 wx => ∃ A B : Nat, v3 = .slice (some ⟨A, 0, none⟩) 32 32 ∧ v4 = .slice (some ⟨B, 0, none⟩) 32 32 ∧ Hid (wx.rowIs A 3 32 (ic (fun _ => 0))) ∧ Hid (wx.rowIs B 3 32 (ic (fun _ => 0))) ∧ A ≠ B ∧ w.heap.size ≤ A ∧ w.heap.size ≤ B ∧ Hid (Below w.heap.size w wx))
 case first =>
  go_region
  all_goals
   go_wp2_with fail
   go_meet
   case rel =>
    have h1 := World.rowIs_made (w.alloc (.cells (madeCells #[.int .i64 0] 32) 3)) (.int .i64 0) 32 3
    simp only [World.size_alloc] at h1
    have hb := (((Below.refl w.heap.size w).alloc (Nat.le_refl _) (.cells (madeCells #[.int .i64 0] 32) 3)).alloc (by simp) (.cells (madeCells #[.int .i64 0] 32) 3)).drew
    first
    | exact ⟨w.heap.size, w.heap.size + 1, rfl, rfl, Lib.hid (HR0.out.alloc _).drew, Lib.hid h1.drew, by omega, by omega, by omega, Lib.hid hb⟩
    | exact ⟨w.heap.size + 1, w.heap.size, rfl, rfl, Lib.hid h1.drew, Lib.hid (HR0.out.alloc _).drew, by omega, by omega, by omega, Lib.hid hb⟩
 case rest =>
  obtain ⟨A, B, rfl, rfl, RA, RB, hne, hA, hB, KW⟩ := hcut
  have hrow0 : ∀ F : Nat → Int, F 0 = 0 → ∀ i, i < 32 → ic (fun _ => 0) i = ic (rowF F 1 0) i := fun F hF i hi => by
   simp only [ic, rowF]
   by_cases e : i < 1
   ·obtain rfl : i = 0 := by omega
    simp [hF]
   ·simp [e]
  have G0 : Hid (GS w wc A B 1 0 0) := Lib.hid ⟨RA.out.congr (hrow0 smF grp_zero.1), RB.out.congr (hrow0 moF grp_zero.2), KW.out⟩
  clear RA RB KW hrow0
  go_wp2
  go_loopw [5] (fun v5 wr => ∃ s : Nat, 1 ≤ s ∧ s ≤ 32 ∧ v5 = .int .i64 (s : Nat) ∧ Hid (GS w wr A B s 0 0)) (fun v5 _ => 32 - (intOf v5).toNat)
  case atStart => exact ⟨1, by omega, by omega, rfl, G0⟩
  case round =>
   clear G0
   obtain ⟨s, hs1, hs, rfl, G⟩ := hrel
   by_cases h : s < 32
   ·obtain ⟨t1, t2, t3, t4, t5⟩ := grp_small s h
    obtain ⟨t6, t7⟩ := t5 (by omega)
    have HT := Lib.hid t7
    have gs : (s : Int) < 32 := by omega
    clear t5 t7
    go_wp2_with (first
     | (go_at_call 15; (with_reducible refine (members_row s _ (by omega) t6).mono ?_); rintro e w1 ⟨g, cap, rfl, hsl, hg, hb⟩; have OW := Lib.hid hsl; have hAl := G.out.a.lt; have hBl := G.out.b.lt; have G := Lib.hid (G.out.below' hb); clear hsl hb))
    have OW0 := OW
    have hlen := mem_len s 10
    have gA : A ≠ g := by omega
    have gB : B ≠ g := by omega
    go_loopw [29] (fun v29 wr => ∃ j : Nat, j ≤ (mem s 10).length ∧ v29 = .int .i64 (j : Nat) ∧ Hid (GS w wr A B s (xF s j) (pmF s j)) ∧ Hid (IsSl wr (some ⟨g, 0, none⟩) g 0 cap (mem s 10).length (ic (fun i => (((mem s 10).getD i 0 : Nat) : Int))))) (fun v29 _ => (mem s 10).length - (intOf v29).toNat)
    case atStart => exact ⟨0, by omega, rfl, by rw [pm_zero]; exact G, OW⟩
    case round =>
     clear G OW OW0
     obtain ⟨j, hj, rfl, G, OW⟩ := hrel
     by_cases h2 : j < (mem s 10).length
     ·obtain ⟨f1, f2, f3, f4, f5, f6⟩ := grp_facts s h j h2
      have ix0 := fun W => ixI OW.out j cap h2 W
      have x0 := OW.out.cell j h2
      simp only [ic, Nat.zero_add] at ix0 x0
      have F6 := Lib.hid f6
      clear f6
      generalize (mem s 10).getD j 0 = K at *
      have hb := HV.out.mono G.out.below (Nat.le_refl _)
      have ixb := fun W => ixI hb K c f1 W
      have xb := hb.cell K f1
      obtain ⟨r, hr⟩ : ∃ r, r = s - 2 ^ K := ⟨_, rfl⟩
      rw [← hr] at f3 f4 f5 F6
      have ca := G.out.a.cell (i := r) (by omega)
      have ca2 := G.out.a.cell (i := s) (by omega)
      have cb := G.out.b.cell (i := r) (by omega)
      have cb2 := G.out.b.cell (i := s) (by omega)
      have fa := G.out.a.frozen s
      have fb := G.out.b.frozen s
      simp only [ic, rowF, if_pos f3, Nat.lt_irrefl, if_false, if_true] at ca ca2 cb cb2 xb
      have g0 : (0 : Int) ≤ (r : Int) := Int.natCast_nonneg r
      have g1 : (r : Int) < 32 := by omega
      have g2 : (0 : Int) ≤ (s : Int) := Int.natCast_nonneg s
      have hwr : IntKind.i64.wrap (smF r + blF K) = smF r + blF K := by rw [f5, IntKind.wrap_i64]; omega
      have F5 := Lib.hid f5
      obtain ⟨p1, p2⟩ := pow_wrap K f1
      have n1 : ¬ A = B := hne
      have n2 : ¬ B = A := fun e => hne e.symm
      clear hb hr f5
      go_wp2
      go_region
      have G := Lib.hid (G.out.setA hne hA (smF r + blF K)).drew
      have OW := Lib.hid (OW.out.setFar (o' := s) gA (.int .i64 (smF r + blF K))).drew
      clear ix0 x0 xb ca ca2 cb cb2 fa fb
      generalize (wr.setCell ⟨A, s, none⟩ (.int .i64 (smF r + blF K))).drew = wB at G OW ⊢
      have cb := G.out.b.cell (i := r) (by omega)
      have cb2 := G.out.b.cell (i := s) (by omega)
      have fb := G.out.b.frozen s
      simp only [ic, rowF, if_pos f3, Nat.lt_irrefl, if_false, if_true] at cb cb2
      go_wp2
      go_region
      have G := Lib.hid (G.out.setB hne hB (max (pmF s j) (moF r))).drew
      have OW := Lib.hid (OW.out.setFar (o' := s) gB (.int .i64 (max (pmF s j) (moF r)))).drew
      go_wp2
      go_roundw
      case rel =>
       refine ⟨j + 1, by omega, by go_num, ?_, OW⟩
       have e : xF s (j + 1) = smF r + blF K := by rw [F5.out]; simp [xF]
       rw [e, ← F6.out]
       exact G
      case measure => simp [intOf]; omega
     ·have hje : j = (mem s 10).length := by omega
      have hx : xF s j = smF s := by unfold xF; rw [if_neg (by omega)]
      rw [hx] at G
      have ca2 := G.out.a.cell (i := s) (by omega)
      have cb2 := G.out.b.cell (i := s) (by omega)
      have fb := G.out.b.frozen s
      simp only [ic, rowF, Nat.lt_irrefl, if_false, if_true] at ca2 cb2
      have g2 : (0 : Int) ≤ (s : Int) := Int.natCast_nonneg s
      have hpm := pm_small s h j (by have := mem5 s h; have := mem_len s 5; rw [hje]; rw [mem5 s h]; omega)
      have hwr : IntKind.i64.wrap (pmF s j + 1) = pmF s j + 1 := by rw [IntKind.wrap_i64]; omega
      have hmo := HT.out
      rw [← hje] at hmo
      clear hje
      by_cases hz : smF s = 0
      ·have d1 : (smF s == 0) = true := by simpa using hz
       have HZ := Lib.hid hz
       rw [if_pos hz] at hmo
       have HMO := Lib.hid hmo
       clear hz hmo hx hpm
       go_wp2
       go_roundw
       case rel =>
        have G := G.out.setB hne hB (pmF s j + 1)
        refine ⟨s + 1, by omega, by omega, by go_num, Lib.hid ?_⟩
        rw [HMO.out] at G ⊢
        exact G.next
       case measure => simp [intOf]; omega
      ·have d1 : (smF s == 0) = false := by simpa using hz
       have HZ := Lib.hid hz
       rw [if_neg hz, Int.add_zero] at hmo
       have HMO := Lib.hid hmo
       clear hz hmo hx hpm
       go_wp2
       go_roundw
       case rel =>
        have G := G.out
        rw [HMO.out] at G
        exact ⟨s + 1, by omega, by omega, by go_num, Lib.hid G.next⟩
       case measure => simp [intOf]; omega
   ·have hs32 : s = 32 := by omega
    rw [hs32] at G
    have hsd : decide ((s : Int) < 32) = false := by simp; omega
    clear hs32
    generalize wr = wo at *
    clear wr
    have hA2 := G.out.a.lt
    have hB2 := G.out.b.lt
    obtain ⟨i0, hinf, hz0, hz1, hz2⟩ := info_parts infoI
    have KW0 := Lib.hid (Below.refl wo.heap.size wo)
    go_wp2
    go_loopw [8, 9] (fun v8 v9 wr => ∃ q : Nat, q ≤ 2 ∧ v9 = .int .i64 (LV q : Nat) ∧ ∃ va vk, v8 = .slice va q vk ∧ Hid (wr.ownsRow wo.heap.size 3 1 (.slice va q vk) q (intC (outL q))) ∧ Hid (Below wo.heap.size wo wr)) (fun v8 v9 _ => (intOf v9).toNat)
    case atStart => exact ⟨0, by omega, rfl, none, 0, rfl, Lib.hid (World.ownsRow_nil _ _ _ _), KW0⟩
    case round =>
     clear KW0
     obtain ⟨q, hq, rfl, va, vk, rfl, OW, KW⟩ := hrel
     by_cases h3 : q < 2
     ·obtain ⟨l1, l2, l3, l4, l5, l6, l7, l8⟩ := lv_facts q h3
      have d0 : decide ((0 : Int) < (LV q : Int)) = true := by simpa using l1
      have L6 := Lib.hid l6
      clear l6
      go_wp2
      go_loopw [10, 11] (fun v10 v11 wr => ∃ s : Nat, s < 32 ∧ s &&& LV q = s ∧ v11 = .int .i64 (s : Nat) ∧ v10 = .int .i64 (bestF (CV q) s : Nat) ∧ Hid (wr.ownsRow wo.heap.size 3 1 (.slice va q vk) q (intC (outL q))) ∧ Hid (Below wo.heap.size wo wr)) (fun _ v11 _ => (intOf v11).toNat)
      case atStart => exact ⟨LV q, l2, l4, rfl, by have : bestF (CV q) (LV q) = 0 := (by unfold bestF; rw [if_neg (by omega)]); rw [this]; rfl, OW, KW⟩
      case round =>
       clear OW KW
       obtain ⟨s, hs, hsub, rfl, rfl, OW, KW⟩ := hrel
       by_cases h4 : 0 < s
       ·have d1 : decide ((0 : Int) < (s : Int)) = true := by simpa using h4
        obtain ⟨m1, m2, m3, m4⟩ := set_facts1 q h3 s hs h4 hsub
        obtain ⟨m5, m6⟩ := set_facts2 q h3 s hs h4 hsub
        have M7 := Lib.hid (set_facts3 q h3 s hs h4 hsub)
        have M8 := Lib.hid (set_facts4 q h3 s hs h4 hsub)
        have M9 := Lib.hid (set_facts5 q h3 s hs h4 hsub)
        have M5 := Lib.hid m5
        have ca := (rowIs_below G.out.a KW.out hA2).cell (i := s) hs
        have cb := (rowIs_below G.out.b KW.out hB2).cell (i := LV q - s) (by omega)
        have cb2 := (rowIs_below G.out.b KW.out hB2).cell (i := LV q) (by omega)
        simp only [ic, rowF, if_pos hs, if_pos l2, if_pos (show LV q - s < 32 by omega)] at ca cb cb2
        have hneg : IntKind.i64.wrap (-(LV q : Int)) = -(LV q : Int) := by rw [IntKind.wrap_i64]; omega
        have hw1 : IntKind.i64.wrap ((s : Int) - 1) = (s : Int) - 1 := by rw [IntKind.wrap_i64]; omega
        obtain ⟨_, _, b1, b2, _⟩ := grp_small (LV q - s) (by omega)
        have hwm : IntKind.i64.wrap (1 + moF (LV q - s)) = 1 + moF (LV q - s) := by rw [IntKind.wrap_i64]; omega
        have g0 : (0 : Int) ≤ (s : Int) := Int.natCast_nonneg s
        have g1 : (s : Int) < 32 := by omega
        have g2 : (0 : Int) ≤ (LV q : Int) := Int.natCast_nonneg _
        have g3 : (LV q : Int) < 32 := by omega
        have g4 : (0 : Int) ≤ ((LV q - s : Nat) : Int) := Int.natCast_nonneg _
        have g5 : ((LV q - s : Nat) : Int) < 32 := by omega
        have hls : ∃ x, x = LV q - s := ⟨_, rfl⟩
        clear m5 b1 b2 hls hsub
        by_cases k1 : s &&& LOW q = 0
        ·have HNE : Hid (s ≠ CV q) := Lib.hid (fun e => (M7.out.2 e).1 k1)
         have dA : (((s &&& LOW q : Nat) : Int) == 0) = true := by rw [k1]; rfl
         clear k1
         go_wp2
         go_quiet (fail)
         go_wp2
         go_roundw
         case rel => exact ⟨(s - 1) &&& LV q, by omega, M5.out, by first | rfl | go_num, by rw [M9.out HNE.out], Lib.hid (show (wr.drewN nq).ownsRow _ _ _ _ _ _ from OW.out), Lib.hid (below_drawN KW.out nq)⟩
         case measure => simp [intOf]; omega
        ·have dA : (((s &&& LOW q : Nat) : Int) == 0) = false := by simpa using k1
         by_cases k2 : smF s = 0
         ·have dB : (smF s != 0) = false := by rw [k2]; rfl
          by_cases k3 : 1 + moF (LV q - s) = moF (LV q)
          ·have dC : (1 + moF (LV q - s) != moF (LV q)) = false := by rw [k3]; simp
           have HE : Hid (s = CV q) := Lib.hid (M7.out.1 ⟨k1, k2, k3⟩)
           have hb0 := (M8.out HE.out).1
           have dD : (((bestF (CV q) s : Nat) : Int) == 0) = true := by rw [hb0]; rfl
           clear k1 k2 k3 hb0
           go_wp2
           go_quiet (fail)
           go_wp2
           go_roundw
           case rel => exact ⟨(s - 1) &&& LV q, by omega, M5.out, by first | rfl | go_num, by rw [(M8.out HE.out).2], Lib.hid (show (wr.drewN nq).ownsRow _ _ _ _ _ _ from OW.out), Lib.hid (below_drawN KW.out nq)⟩
           case measure => simp [intOf]; omega
          ·have dC : (1 + moF (LV q - s) != moF (LV q)) = true := by simpa using k3
           have HNE : Hid (s ≠ CV q) := Lib.hid (fun e => k3 (M7.out.2 e).2.2)
           clear k1 k2 k3
           go_wp2
           go_quiet (fail)
           go_wp2
           go_roundw
           case rel => exact ⟨(s - 1) &&& LV q, by omega, M5.out, by first | rfl | go_num, by rw [M9.out HNE.out], Lib.hid (show (wr.drewN nq).ownsRow _ _ _ _ _ _ from OW.out), Lib.hid (below_drawN KW.out nq)⟩
           case measure => simp [intOf]; omega
         ·have dB : (smF s != 0) = true := by simpa using k2
          have HNE : Hid (s ≠ CV q) := Lib.hid (fun e => k2 (M7.out.2 e).2.1)
          clear k1 k2
          go_wp2
          go_quiet (fail)
          go_wp2
          go_roundw
          case rel => exact ⟨(s - 1) &&& LV q, by omega, M5.out, by first | rfl | go_num, by rw [M9.out HNE.out], Lib.hid (show (wr.drewN nq).ownsRow _ _ _ _ _ _ from OW.out), Lib.hid (below_drawN KW.out nq)⟩
          case measure => simp [intOf]; omega
       ·obtain rfl : s = 0 := by omega
        have hbest : bestF (CV q) 0 = CV q := by unfold bestF; rw [if_pos l7]
        rw [hbest]
        have hout : outL q ++ [CV q] = outL (q + 1) := by
         have : q = 0 ∨ q = 1 := by omega
         rcases this with e | e <;> rw [e] <;> rfl
        have HOUT := Lib.hid hout
        have hl6 := L6.out
        have HBK := Lib.hid OW.out.lt
        have HSZ := Lib.hid KW.out.size
        have hlt : LV (q + 1) < LV q := by
         have : q = 0 ∨ q = 1 := by omega
         rcases this with e | e <;> rw [e] <;> decide
        clear hbest hout
        go_wp2_with (at_builtin; refine wpList_append_own _ rfl (.tmp 126) (.tmp 128) 22 rfl wo.heap.size 3 i0 (.int .i64 0) 1 8 Tryz.underlying22 hinf hz0 hz1 hz2 rfl (by decide) (.slice va q vk) q (intC (outL q)) rfl (OW.out.alloc _) ⟨wr.heap.size, 0, none⟩ 1 1 [.int .i64 (CV q : Nat)] rfl rfl (new1 wr (.int .i64 (CV q : Nat)) 3) (one1 _ rfl) (by unfold maxLen; omega) (by omega) (by simp; have := HSZ.out; omega) ?_; intro v' w5 hown hgrow _; have KW := Lib.hid ((KW.out.alloc KW.out.size _).grown hgrow (by have := HSZ.out; simp; omega) (fun kk e => (HBK.out kk e).1)); rw [intC_app, HOUT.out] at hown; obtain ⟨va', vk', rfl⟩ := own_shape hown; have OW := Lib.hid hown; clear hown hgrow)
        go_roundw
        case rel => exact ⟨q + 1, by omega, by first | rfl | go_num, va', vk', rfl, OW, KW⟩
        case measure => simp [intOf]; omega
     ·obtain rfl : q = 2 := by omega
      have d0 : decide ((0 : Int) < (LV 2 : Int)) = false := rfl
      go_wp2
      go_ret
      have hints := OW.out
      rw [intC_ics] at hints
      obtain ⟨a', b', o', c', hvv, hsl⟩ := ints_of_own hints
      refine ⟨va, vk, rfl, ⟨a', b', o', c', hvv, hsl.congr ?_⟩, G.out.below.trans (KW.out.mono G.out.below.size)⟩
      intro i hi
      have : i = 0 ∨ i = 1 := by omega
      rcases this with e | e <;> rw [e] <;> rfl
end Go.Proofs.YtcnaagiicpkcpaaGreat
