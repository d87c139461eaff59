/- Squares of a hide: compared, sorted, cloned. -/
import Derived.Test.YtolkchkedieppaaGreatZCmpI
import Derived.Lib.SliceRun
import Derived.Test.YtolkchkedieppaaGreatZGen
import Derived.Deep.AppendLies
import Derived.Deep.DeepCutAuto
import Derived.Deep.CutBlock
set_option linter.unusedVariables false
set_option linter.unusedSimpArgs false
namespace Go.Proofs.YtolkchkedieppaaGreat
open Go.RowKit Go.Sort Go.Shelf Go.Lib
attribute [local go_sem ↓] Go.wp_at_zero Go.wp_at_succ
/-- three integers: a square (x, y, side), or a line (y, from, to) -/
structure Tr where
 a : Int
 b : Int
 c : Int
instance : Inhabited Tr := ⟨⟨0, 0, 0⟩⟩
def trC (t : Tr) : List Value := [.int .i64 t.a, .int .i64 t.b, .int .i64 t.c]
def trL : List Tr → List Value
 | [] => []
 | x :: l => trC x ++ trL l
theorem trL_len : ∀ P : List Tr, (trL P).length = P.length * 3
 | [] => rfl
 | x :: l => by simp only [trL, List.length_append, trL_len l, List.length_cons]; simp [trC]; omega
theorem trL_app (a b : List Tr) : trL (a ++ b) = trL a ++ trL b := by
 induction a with
 | nil => rfl
 | cons x a ih => simp [trL, ih]
theorem trL_get : ∀ (P : List Tr) (t : Nat) (h : t < P.length * 3), (trL P)[t]? = (trC (P.getD (t / 3) default))[t % 3]?
 | [], t, h => by simp at h
 | x :: l, t, h => by
  simp only [trL]
  by_cases h3 : t < 3
  ·rw [List.getElem?_append_left (by simp [trC]; omega)]
   rw [show t / 3 = 0 by omega, show t % 3 = t by omega]; rfl
  ·rw [List.getElem?_append_right (by simp [trC]; omega)]
   have e : t - (trC x).length = t - 3 := rfl
   rw [e, trL_get l (t - 3) (by simp at h; omega), show t / 3 = (t - 3) / 3 + 1 by omega, show (t - 3) % 3 = t % 3 by omega]
   rfl
/-- triples in a row, as read, from cell o of block g -/
structure TrR (w : World) (g o : Nat) (P : List Tr) : Prop where
 c0 : ∀ i, i < P.length → w.cell? ⟨g, o + i * 3, none⟩ = some (.int .i64 (P.getD i default).a)
 c1 : ∀ i, i < P.length → w.cell? ⟨g, o + i * 3 + 1, none⟩ = some (.int .i64 (P.getD i default).b)
 c2 : ∀ i, i < P.length → w.cell? ⟨g, o + i * 3 + 2, none⟩ = some (.int .i64 (P.getD i default).c)
theorem TrR.below {w w' : World} {g o B : Nat} {P : List Tr} (h : TrR w g o P) (hb : Below B w w') (hg : g < B) : TrR w' g o P :=
 ⟨fun i hi => (hb.cell (p := ⟨g, o + i * 3, none⟩) hg).trans (h.c0 i hi), fun i hi => (hb.cell (p := ⟨g, o + i * 3 + 1, none⟩) hg).trans (h.c1 i hi), fun i hi => (hb.cell (p := ⟨g, o + i * 3 + 2, none⟩) hg).trans (h.c2 i hi)⟩
theorem trR_own {w : World} {base g cap : Nat} {e : TypeId} {P : List Tr} (h : w.ownsRow base e 3 (.slice (some ⟨g, 0, none⟩) P.length cap) P.length (trL P)) : TrR w g 0 P := by
 have h2 : ∀ t, t < P.length * 3 → w.cell? ⟨g, t, none⟩ = (trC (P.getD (t / 3) default))[t % 3]? := fun t ht => by
  rw [h.cellAt t ht, trL_get P t ht]
 refine ⟨fun i hi => ?_, fun i hi => ?_, fun i hi => ?_⟩
 ·rw [Nat.zero_add, h2 (i * 3) (by omega), show i * 3 / 3 = i by omega, show i * 3 % 3 = 0 by omega]; rfl
 ·rw [Nat.zero_add, h2 (i * 3 + 1) (by omega), show (i * 3 + 1) / 3 = i by omega, show (i * 3 + 1) % 3 = 1 by omega]; rfl
 ·rw [Nat.zero_add, h2 (i * 3 + 2) (by omega), show (i * 3 + 2) / 3 = i by omega, show (i * 3 + 2) % 3 = 2 by omega]; rfl
theorem flatT_get (P : List Tr) (t : Nat) (h : t < P.length * 3) : (flatK trC 3 P.toArray)[t]! = (trC (P.getD (t / 3) default))[t % 3]! := by
 rw [get_flatK _ _ _ _ (by simpa using h)]
 have e : P.toArray[t / 3]! = P.getD (t / 3) default := by
  have : t / 3 < P.length := by omega
  simp [this]
 rw [e]
theorem holdsT_own {w : World} {base g cap : Nat} {e : TypeId} {P : List Tr} (h : w.ownsRow base e 3 (.slice (some ⟨g, 0, none⟩) P.length cap) P.length (trL P)) : HoldsK trC 3 w g 0 P.toArray := by
 intro t ht
 have ht2 : t < P.length * 3 := by simpa using ht
 rw [Nat.zero_add]
 refine ⟨?_, h.frozenAt t⟩
 rw [h.cellAt t ht2, trL_get P t ht2, flatT_get P t ht2]
 have h3 : t % 3 < 3 := Nat.mod_lt _ (by omega)
 generalize P.getD (t / 3) default = x
 rcases (show t % 3 = 0 ∨ t % 3 = 1 ∨ t % 3 = 2 by omega) with e | e | e <;> rw [e] <;> rfl
theorem trR_holds {w : World} {g : Nat} {P : List Tr} (h : HoldsK trC 3 w g 0 P.toArray) : TrR w g 0 P := by
 have h2 : ∀ t, t < P.length * 3 → w.cell? ⟨g, t, none⟩ = some ((trC (P.getD (t / 3) default))[t % 3]!) := fun t ht => by
  have := (h t (by simpa using ht)).1
  rw [Nat.zero_add, flatT_get P t ht] at this
  exact this
 refine ⟨fun i hi => ?_, fun i hi => ?_, fun i hi => ?_⟩
 ·rw [Nat.zero_add, h2 (i * 3) (by omega), show i * 3 / 3 = i by omega, show i * 3 % 3 = 0 by omega]; rfl
 ·rw [Nat.zero_add, h2 (i * 3 + 1) (by omega), show (i * 3 + 1) / 3 = i by omega, show (i * 3 + 1) % 3 = 1 by omega]; rfl
 ·rw [Nat.zero_add, h2 (i * 3 + 2) (by omega), show (i * 3 + 2) / 3 = i by omega, show (i * 3 + 2) % 3 = 2 by omega]; rfl
theorem sortT_below {w : World} {B g n : Nat} {d : Array Tr} {os : Array Obj} (hg : B ≤ g) (hB : B ≤ w.heap.size) : Below B w (sortWorldK trC 3 w g 0 n d os) := by
 refine ⟨rfl, rfl, rfl, size_sortWorldK_c _ _ _ _ _ _ _ _, fun k hk => ?_⟩
 unfold sortWorldK grow putRowK putRow mapBlock
 rw [Array.getElem?_append_left (by simp [Sort.ahead]; omega), Array.getElem?_modify, if_neg (by omega)]
 rfl
theorem permT_of {d d' : Array Tr} (h : Go.Sort.PermIn 0 d.size d d') : d.toList.Perm d'.toList := by
 obtain ⟨h1, _, h3⟩ := h
 have e1 : d.extract 0 d.size = d := by simp
 have e2 : d'.extract 0 d.size = d' := by rw [← h1]; simp
 rw [e1, e2] at h3
 exact h3.symm
theorem get_listT (d : Array Tr) (i : Nat) (h : i < d.size) : d[i]! = d.toList[i]'(by simpa using h) := by
 rw [getElem!_pos d i h]; simp
theorem sortedT_of {d d' : Array Tr} {cf : Tr → Tr → Int} (hs : d'.size = d.size) (h : Go.Sort.SortedIn (ltOf cf) 0 d.size d') : d'.toList.Pairwise (fun a b => ¬ cf b a < 0) := by
 rw [List.pairwise_iff_getElem]
 intro i j hi hj hij
 have hi' : i < d'.size := by simpa using hi
 have hj' : j < d'.size := by simpa using hj
 have := h i j (Nat.zero_le _) hij (by omega)
 rw [ltOf, get_listT d' i hi', get_listT d' j hj', decide_eq_false_iff_not] at this
 exact this
/-- how squares are compared: by y, then x -/
def cmpS (p q : Tr) : Int := if p.b < q.b then -1 else if q.b < p.b then 1 else if p.a < q.a then -1 else if q.a < p.a then 1 else 0
def ltS (p q : Tr) : Prop := p.b < q.b ∨ (p.b = q.b ∧ p.a < q.a)
theorem cmpS_lt (p q : Tr) : cmpS p q < 0 ↔ ltS p q := by
 unfold cmpS ltS
 split
 ·simp; omega
 ·split
  ·simp; omega
  ·split
   ·simp; omega
   ·split
    ·simp; omega
    ·simp; omega
theorem swo_cmpS : Go.Sort.SWO (ltOf cmpS) where
 irrefl x := by rw [ltOf, decide_eq_false_iff_not, cmpS_lt]; unfold ltS; omega
 trans x y z h1 h2 := by
  rw [ltOf, decide_eq_true_iff, cmpS_lt] at *
  unfold ltS at *; omega
 ntrans x y z h1 h2 := by
  rw [ltOf, decide_eq_false_iff_not, cmpS_lt] at *
  unfold ltS at *; omega
def twF (p q : Int) : Nat → Int := fun j => if j = 0 then p else q
theorem tw_ints (w : World) (p q : Int) : Ints (w.alloc (.cells #[.int .i64 p, .int .i64 q] 3)) (.slice (some ⟨w.heap.size, 0, none⟩) 2 2) 2 (twF p q) :=
 ints_of_own (base := w.heap.size) ⟨rfl, .inr ⟨w.heap.size, 2, #[.int .i64 p, .int .i64 q], rfl, Nat.le_refl _, heap_alloc_new w _, by omega, by unfold maxLen; omega, rfl, rfl⟩⟩
theorem lexS (x y : Tr) : lexC (twF x.b x.a) (twF y.b y.a) 2 2 2 0 = cmpS x y := by
 simp only [lexC, twF, cmp3, cmpS]
 repeat' split
 all_goals (first | rfl | omega | (exfalso; simp at *; omega) | (simp at *; done) | (simp at *; omega))
theorem grow4T (W : World) (a b c d : Obj) : ∃ q os', (((W.alloc a).alloc b).alloc c).alloc d = grow (W.drewN q) os' :=
 ⟨0, #[a] ++ #[b] ++ #[c] ++ #[d], by rw [alloc_eq_grow, alloc_eq_grow, alloc_eq_grow, alloc_eq_grow, grow_grow, grow_grow, grow_grow]; rfl⟩
set_option maxHeartbeats 1000000 in
set_option maxRecDepth 100000 in
theorem hcmp_any (x y : Tr) (W : World) : Calls Tryz.prog 105 #[.agg #[.int .i64 x.a, .int .i64 x.b, .int .i64 x.c], .agg #[.int .i64 y.a, .int .i64 y.b, .int .i64 y.c]] W fun e w' => e = .returned (.int .i64 (cmpS x y)) ∧ ∃ q os', w' = grow (W.drewN q) os' := by
 obtain ⟨W2, hW2⟩ : ∃ W2, W2 = (W.alloc (.cells #[.int .i64 x.a, .int .i64 x.b, .int .i64 x.c] 47)).alloc (.cells #[.int .i64 y.a, .int .i64 y.b, .int .i64 y.c] 47) := ⟨_, rfl⟩
 have e2 : W2.heap.size = W.heap.size + 1 + 1 := by rw [hW2]; simp
 have hcon := compare_ints _ _ 2 2 (twF x.b x.a) (twF y.b y.a) _ ((tw_ints W2 x.b x.a).mono ((Below.refl _ _).alloc (Nat.le_refl _) (.cells #[.int .i64 y.b, .int .i64 y.a] 3)) (Nat.le_refl _)) (tw_ints (W2.alloc (.cells #[.int .i64 x.b, .int .i64 x.a] 3)) y.b y.a) (by omega) (by omega)
 rw [lexS, World.size_alloc, e2] at hcon
 rw [hW2] at hcon
 clear hW2 e2
 generalize cmpS x y = r at hcon ⊢
 go_enter Tryz.func105, Tryz.ntmps105
 go_wp2_with (go_at_call 97; (with_reducible refine hcon.mono ?_); rintro e w' ⟨rfl, rfl⟩)
 go_ret
 exact ⟨rfl, grow4T _ _ _ _ _⟩
theorem hcmp_lays (blk off size : Nat) (w : World) : CmpLays Tryz.prog 105 #[] trC 3 cmpS blk off size w :=
 fun _ _ _ _ x y => hcmp_any x y _
set_option maxHeartbeats 1000000 in
theorem sortSq_any (w : World) (base g cap : Nat) (P : List Tr) (h : w.ownsRow base 47 3 (.slice (some ⟨g, 0, none⟩) P.length cap) P.length (trL P)) (h1000 : P.length ≤ 1000) :
  Calls Tryz.prog 104 #[.slice (some ⟨g, 0, none⟩) P.length cap, .func (.func 105) #[] #[]] w fun e w' => e = .returned (.tuple #[]) ∧ ∃ P' : List Tr, P'.length = P.length ∧ P.Perm P' ∧ P'.Pairwise (fun a b => ¬ ltS b a) ∧ TrR w' g 0 P' ∧ Below g w w' ∧ g < w'.heap.size ∧ (∀ k, k ≠ g → k < w.heap.size → w'.heap[k]? = w.heap[k]?) := by
 have hgb : base ≤ g ∧ g < w.heap.size := h.lt g rfl
 have eg : ∀ args w, (callFunc 105 args).run Tryz.prog w = .ok (.enter 105 args) w := enters_of Tryz.func105 (by kernel_rfl) rfl
 have hcon := AnyQ.slices_SortFunc Tryz.sortSq 3 Tryz.isAgg47 Tryz.sizeOf47 trC (fun _ => rfl) (fun x v hv => by simp [trC] at hv; rcases hv with rfl | rfl | rfl <;> rfl) cmpS swo_cmpS 105 #[] g 0 cap P.toArray w eg (hcmp_lays g 0 P.toArray.size w) (holdsT_own h) hgb.2 (by simp; omega)
 rw [show P.toArray.size = P.length from rfl] at hcon
 refine Calls.mono hcon ?_
 rintro e w' ⟨rfl, d', n, os, hp, hs, rfl⟩
 have hsz : d'.size = P.length := by have := hp.1; simpa using this
 refine ⟨rfl, d'.toList, by simpa using hsz, by have := permT_of hp; simpa using this, ?_, ?_, sortT_below (Nat.le_refl _) (by omega), ?_, fun k hk hkw => ?_⟩
 ·have := sortedT_of (d := P.toArray) (by simpa using hsz) hs
  exact this.imp (fun {a b} q e => q ((cmpS_lt _ _).2 e))
 ·have := holdsK_sortWorldK_c trC 3 w g 0 P.toArray d' n os (holdsT_own h) hgb.2 (by simpa using hsz)
  exact trR_holds (by simpa using this)
 ·exact Nat.lt_of_lt_of_le hgb.2 (size_sortWorldK_c _ _ _ _ _ _ _ _)
 ·unfold sortWorldK grow putRowK putRow mapBlock
  rw [Array.getElem?_append_left (by simp [Sort.ahead]; omega), Array.getElem?_modify, if_neg (fun e => hk e.symm)]
  rfl
end Go.Proofs.YtolkchkedieppaaGreat

/- A row of integers of the call's own, written. -/
namespace Go.Proofs.YtolkchkedieppaaGreat
open Go.RowKit
theorem own_cap {w : World} {base e size n : Nat} {a : Option Addr} {c : Nat} {xs : List Value} (h : w.ownsRow base e size (.slice a n c) n xs) : n ≤ c := by
 rcases h.2 with ⟨h1, h2⟩ | ⟨g, cap, cur, h1, _, _, h2, _⟩
 ·rw [h2]; exact Nat.zero_le _
 ·cases h1; exact h2
end Go.Proofs.YtolkchkedieppaaGreat

/- Reading a cut: read of package hide at a valid cut. -/
namespace Go.Proofs.YtolkchkedieppaaGreat
open Go.RowKit
attribute [local go_sem ↓] Go.wp_at_zero Go.wp_at_succ
/-- two squares do not overlap -/
def ApT (p q : Tr) : Prop := p.a + p.c ≤ q.a ∨ q.a + q.c ≤ p.a ∨ p.b + p.c ≤ q.b ∨ q.b + q.c ≤ p.b
instance (p q : Tr) : Decidable (ApT p q) := by unfold ApT; infer_instance
/-- a square in range -/
structure RgT (q : Tr) : Prop where
 a0 : 0 ≤ q.a
 b0 : 0 ≤ q.b
 c0 : 1 ≤ q.c
 c1 : q.c ≤ 1000
 a1 : q.a ≤ 1000 - q.c
 b1 : q.b ≤ 1000 - q.c
/-- width, height and area of the first k squares -/
def wdT (S : List Tr) : Nat → Int
 | 0 => 0
 | k + 1 => if wdT S k < (S.getD k default).a + (S.getD k default).c then (S.getD k default).a + (S.getD k default).c else wdT S k
def htT (S : List Tr) : Nat → Int
 | 0 => 0
 | k + 1 => if htT S k < (S.getD k default).b + (S.getD k default).c then (S.getD k default).b + (S.getD k default).c else htT S k
def arT (S : List Tr) : Nat → Int
 | 0 => 0
 | k + 1 => arT S k + (S.getD k default).c * (S.getD k default).c
/-- squares are a cut -/
structure CutOK (S : List Tr) : Prop where
 pos : 0 < S.length
 few : S.length ≤ 24
 rg : ∀ i, i < S.length → RgT (S.getD i default)
 ap : ∀ i j, j < i → i < S.length → ApT (S.getD i default) (S.getD j default)
 ar : arT S S.length = wdT S S.length * htT S S.length
theorem RgT.sq {q : Tr} (h : RgT q) : 1 ≤ q.c * q.c ∧ q.c * q.c ≤ 1000000 := by
 have h1 := h.c0
 have h2 := h.c1
 constructor
 ·exact Int.le_trans (by omega) (Int.mul_le_mul h1 h1 (by omega) (by omega))
 ·exact Int.le_trans (Int.mul_le_mul h2 h2 (by omega) (by omega)) (by omega)
theorem meas_bound {S : List Tr} (h : ∀ i, i < S.length → RgT (S.getD i default)) : ∀ k, k ≤ S.length → 0 ≤ wdT S k ∧ wdT S k ≤ 1000 ∧ 0 ≤ htT S k ∧ htT S k ≤ 1000 ∧ (k : Int) ≤ arT S k ∧ arT S k ≤ 1000000 * (k : Int)
 | 0, _ => by simp [wdT, htT, arT]
 | k + 1, hk => by
  have ih := meas_bound h k (by omega)
  have hr := h k (by omega)
  have hq := hr.sq
  have := hr.a0; have := hr.b0; have := hr.c0; have := hr.a1; have := hr.b1
  simp only [wdT, htT, arT]
  refine ⟨?_, ?_, ?_, ?_, by omega, by omega⟩ <;> split <;> omega
theorem sqs_s : Tryz.prog.underlying 23 = some (.slice (Tryz.prog.elem 23)) := by kernel_rfl
theorem sqs_z (W : World) : (sizeOf (Tryz.prog.elem 23)).run Tryz.prog W = .ok 3 W := by kernel_rfl
theorem ixSq (b n c i : Nat) (hi : i < n) (W : World) :
  (Instr.indexAt 23 (.slice (some ⟨b, 0, none⟩) n c) (.int .i64 (i : Int))).run Tryz.prog W = .ok (.pointer (some ⟨b, i * 3, none⟩)) W := by
 rw [run_indexAt_slice W _ _ _ _ _ _ sqs_s, if_pos ⟨by omega, by omega⟩, sqs_z]
 simp only [Result.andThen, Int.toNat_natCast]
 congr 3
 unfold Addr.add
 split
 ·rename_i h; simp [show i = 0 by omega]
 ·simp
theorem infoSq : (Tryz.prog.info? 47).map (fun i => (i.zero, i.size, i.bytes)) = some (some (.agg #[.int .i64 0, .int .i64 0, .int .i64 0]), 3, 24) := by kernel_rfl
theorem trC_one (x : Tr) : ∀ u ∈ trC x, u.oneCell' = true := fun u hu => by
 simp [trC] at hu
 rcases hu with rfl | rfl | rfl <;> rfl
theorem trL_one : ∀ (P : List Tr), ∀ u ∈ trL P, u.oneCell' = true
 | [], u, h => by cases h
 | x :: l, u, h => by
  rcases List.mem_append.1 h with e | e
  ·exact trC_one x u e
  ·exact trL_one l u e
theorem trR_news {w : World} {g : Nat} {P : List Tr} (h : TrR w g 0 P) : ∀ j u, (trL P)[j]? = some u → w.cell? ((⟨g, 0, none⟩ : Addr).add j) = some u := fun j u hj => by
 have hl : j < P.length * 3 := by
  have := (List.getElem?_eq_some_iff.1 hj).1
  rw [trL_len] at this; exact this
 rw [trL_get P j hl] at hj
 rw [add_at, Nat.zero_add]
 have h3 : j % 3 < 3 := Nat.mod_lt _ (by omega)
 have hd : j / 3 < P.length := by omega
 rcases (show j % 3 = 0 ∨ j % 3 = 1 ∨ j % 3 = 2 by omega) with e | e | e <;> rw [e] at hj
 ·have := h.c0 (j / 3) hd
  rw [Nat.zero_add, show j / 3 * 3 = j by omega] at this
  rw [this]; exact hj
 ·have := h.c1 (j / 3) hd
  rw [Nat.zero_add, show j / 3 * 3 + 1 = j by omega] at this
  rw [this]; exact hj
 ·have := h.c2 (j / 3) hd
  rw [Nat.zero_add, show j / 3 * 3 + 2 = j by omega] at this
  rw [this]; exact hj
set_option maxHeartbeats 1000000 in
set_option maxRecDepth 100000 in
theorem sqclone_any (g0 c0 : Nat) (S : List Tr) (w : World) (h : TrR w g0 0 S) (hg : g0 < w.heap.size) (hc : S.length ≤ c0) (h1 : 0 < S.length) (hn : S.length ≤ 1000) :
  Calls Tryz.prog 102 #[.slice (some ⟨g0, 0, none⟩) S.length c0] w fun e w' => ∃ g c, e = .returned (.slice (some ⟨g, 0, none⟩) S.length c) ∧ w'.ownsRow w.heap.size 47 3 (.slice (some ⟨g, 0, none⟩) S.length c) S.length (trL S) ∧ Below w.heap.size w w' := by
 obtain ⟨i0, hinf, hz0, hz1, hz2⟩ := info_parts infoSq
 have hnil : ∀ (W : World) (x : Option Addr) (n c : Nat), (binOp .eql 23 (.slice x n c) (.slice none 0 0)).run Tryz.prog W = .ok (.bool x.isNone) W := fun W x n c => Lib.run_eql_slice_nil W 23 47 x n c 0 0 Tryz.underlying23
 have KW := Lib.hid ((Below.refl w.heap.size w).alloc (Nat.le_refl _) (.cells #[] 47))
 have OW : Hid ((w.alloc (.cells #[] 47)).ownsRow w.heap.size 47 3 (.slice (some ⟨w.heap.size, 0, none⟩) 0 0) 0 []) := Lib.hid (World.ownsRow_made w #[] 0 (Nat.le_refl _) (by unfold maxLen; omega) rfl)
 have HN := Lib.hid (trR_news (h.below KW.out hg))
 have HONE := Lib.hid (trL_one S)
 have HLEN := Lib.hid (trL_len S)
 clear h
 go_enter Tryz.func102, Tryz.ntmps102
 go_wp2_with (at_builtin; refine wpList_append_own _ rfl (.tmp 5) (.tmp 6) 23 rfl w.heap.size 47 i0 _ 3 24 Tryz.underlying23 hinf hz0 hz1 hz2 rfl (by decide) (.slice (some ⟨w.heap.size, 0, none⟩) 0 0) 0 [] rfl OW.out ⟨g0, 0, none⟩ S.length c0 (trL S) rfl HLEN.out HN.out HONE.out (by unfold maxLen; omega) (by omega) (by simp) ?_; intro v' w3 hown hgrow _; have KW := Lib.hid (KW.out.grown hgrow (by simp) (fun kk e => by cases e; exact Nat.le_refl _)); have HOWN := Lib.hid hown; clear hown hgrow)
 go_ret
 have hown := HOWN.out
 rw [Nat.zero_add, List.nil_append] at hown
 obtain ⟨g, cap, rfl, _, _⟩ := hown.form (by omega)
 exact ⟨g, cap, rfl, hown, KW.out⟩
theorem apart_any (p q : Tr) (r : Bool) (hr : r = true ↔ ApT p q) (w : World) (hp : RgT p) (hq : RgT q) :
  Calls Tryz.prog 103 #[.agg #[.int .i64 p.a, .int .i64 p.b, .int .i64 p.c], .agg #[.int .i64 q.a, .int .i64 q.b, .int .i64 q.c]] w fun e w' => e = .returned (.bool r) ∧ Below w.heap.size w w' := by
 have := hp.a0; have := hp.b0; have := hp.c0; have := hp.c1; have := hp.a1; have := hp.b1
 have := hq.a0; have := hq.b0; have := hq.c0; have := hq.c1; have := hq.a1; have := hq.b1
 have w1 : IntKind.i64.wrap (p.a + p.c) = p.a + p.c := by rw [IntKind.wrap_i64]; omega
 have w2 : IntKind.i64.wrap (q.a + q.c) = q.a + q.c := by rw [IntKind.wrap_i64]; omega
 have w3 : IntKind.i64.wrap (p.b + p.c) = p.b + p.c := by rw [IntKind.wrap_i64]; omega
 have w4 : IntKind.i64.wrap (q.b + q.c) = q.b + q.c := by rw [IntKind.wrap_i64]; omega
 have KW := Lib.hid (((Below.refl w.heap.size w).alloc (Nat.le_refl _) (.cells #[.int .i64 p.a, .int .i64 p.b, .int .i64 p.c] 47)).alloc (by simp) (.cells #[.int .i64 q.a, .int .i64 q.b, .int .i64 q.c] 47))
 by_cases c1 : p.a + p.c ≤ q.a
 ·have d1 : decide (p.a + p.c ≤ q.a) = true := by simpa using c1
  have HR : Hid (r = true) := Lib.hid (hr.2 (.inl c1))
  go_enter Tryz.func103, Tryz.ntmps103
  go_wp2
  go_ret
  exact ⟨by rw [HR.out]; rfl, KW.out⟩
 ·have d1 : decide (p.a + p.c ≤ q.a) = false := by simpa using c1
  by_cases c2 : q.a + q.c ≤ p.a
  ·have d2 : decide (q.a + q.c ≤ p.a) = true := by simpa using c2
   have HR : Hid (r = true) := Lib.hid (hr.2 (.inr (.inl c2)))
   go_enter Tryz.func103, Tryz.ntmps103
   go_wp2
   go_ret
   exact ⟨by rw [HR.out]; rfl, KW.out⟩
  ·have d2 : decide (q.a + q.c ≤ p.a) = false := by simpa using c2
   by_cases c3 : p.b + p.c ≤ q.b
   ·have d3 : decide (p.b + p.c ≤ q.b) = true := by simpa using c3
    have HR : Hid (r = true) := Lib.hid (hr.2 (.inr (.inr (.inl c3))))
    go_enter Tryz.func103, Tryz.ntmps103
    go_wp2
    go_ret
    exact ⟨by rw [HR.out]; rfl, KW.out⟩
   ·have d3 : decide (p.b + p.c ≤ q.b) = false := by simpa using c3
    by_cases c4 : q.b + q.c ≤ p.b
    ·have d4 : decide (q.b + q.c ≤ p.b) = true := by simpa using c4
     have HR : Hid (r = true) := Lib.hid (hr.2 (.inr (.inr (.inr c4))))
     go_enter Tryz.func103, Tryz.ntmps103
     go_wp2
     go_ret
     exact ⟨by rw [HR.out]; rfl, KW.out⟩
    ·have d4 : decide (q.b + q.c ≤ p.b) = false := by simpa using c4
     have HR : Hid (r = false) := Lib.hid (by
      rcases e : r with _ | _
      ·rfl
      ·rcases hr.1 e with q | q | q | q <;> contradiction)
     go_enter Tryz.func103, Tryz.ntmps103
     go_wp2
     go_ret
     exact ⟨by rw [HR.out]; rfl, KW.out⟩
end Go.Proofs.YtolkchkedieppaaGreat

/- A cut covers its rectangle, plainly: squares that do not overlap, counted cell by cell. -/
namespace Go.Proofs.YtolkchkedieppaaGreat
/-- a cell lies in a square -/
def inT (p : Tr) (x y : Int) : Prop := p.a ≤ x ∧ x < p.a + p.c ∧ p.b ≤ y ∧ y < p.b + p.c
instance (p : Tr) (x y : Int) : Decidable (inT p x y) := by unfold inT; infer_instance
end Go.Proofs.YtolkchkedieppaaGreat

/- Cuts that are made by adding rows of equal squares, plainly. -/
namespace Go.Proofs.YtolkchkedieppaaGreat
def sumC : List Tr → Int
 | [] => 0
 | t :: l => t.c * t.c + sumC l
/-- a cut with its measures -/
structure MkC (L : List Tr) (W H : Nat) : Prop where
 pos : 0 < L.length
 w1 : 1 ≤ W
 h1 : 1 ≤ H
 wb : W ≤ 1000
 hb : H ≤ 1000
 rg : ∀ t, t ∈ L → 0 ≤ t.a ∧ 0 ≤ t.b ∧ 1 ≤ t.c ∧ t.a + t.c ≤ (W : Int) ∧ t.b + t.c ≤ (H : Int)
 ap : L.Pairwise (fun p q => ApT q p)
 ar : sumC L = (W : Int) * (H : Int)
 mw : ∃ t, t ∈ L ∧ t.a + t.c = (W : Int)
 mh : ∃ t, t ∈ L ∧ t.b + t.c = (H : Int)
end Go.Proofs.YtolkchkedieppaaGreat

/- Lines of a cut: compared and sorted. -/
namespace Go.Proofs.YtolkchkedieppaaGreat
open Go.RowKit Go.Sort Go.Shelf Go.Lib
attribute [local go_sem ↓] Go.wp_at_zero Go.wp_at_succ
/-- how lines are compared: by y, then from, then to -/
def cmpL (p q : Tr) : Int := if p.a < q.a then -1 else if q.a < p.a then 1 else if p.b < q.b then -1 else if q.b < p.b then 1 else if p.c < q.c then -1 else if q.c < p.c then 1 else 0
def ltL (p q : Tr) : Prop := p.a < q.a ∨ (p.a = q.a ∧ (p.b < q.b ∨ (p.b = q.b ∧ p.c < q.c)))
theorem cmpL_lt (p q : Tr) : cmpL p q < 0 ↔ ltL p q := by
 unfold cmpL ltL
 repeat' split
 all_goals (simp; try omega)
theorem swo_cmpL : Go.Sort.SWO (ltOf cmpL) where
 irrefl x := by rw [ltOf, decide_eq_false_iff_not, cmpL_lt]; unfold ltL; omega
 trans x y z h1 h2 := by
  rw [ltOf, decide_eq_true_iff, cmpL_lt] at *
  unfold ltL at *; omega
 ntrans x y z h1 h2 := by
  rw [ltOf, decide_eq_false_iff_not, cmpL_lt] at *
  unfold ltL at *; omega
def thF (p q r : Int) : Nat → Int := fun j => if j = 0 then p else if j = 1 then q else r
theorem th_ints (w : World) (p q r : Int) : Ints (w.alloc (.cells #[.int .i64 p, .int .i64 q, .int .i64 r] 3)) (.slice (some ⟨w.heap.size, 0, none⟩) 3 3) 3 (thF p q r) :=
 ints_of_own (base := w.heap.size) ⟨rfl, .inr ⟨w.heap.size, 3, #[.int .i64 p, .int .i64 q, .int .i64 r], rfl, Nat.le_refl _, heap_alloc_new w _, by omega, by unfold maxLen; omega, rfl, rfl⟩⟩
theorem lexLn (x y : Tr) : lexC (thF x.a x.b x.c) (thF y.a y.b y.c) 3 3 3 0 = cmpL x y := by
 have t0 : ∀ p q r : Int, thF p q r 0 = p := fun _ _ _ => rfl
 have t1 : ∀ p q r : Int, thF p q r 1 = q := fun _ _ _ => rfl
 have t2 : ∀ p q r : Int, thF p q r 2 = r := fun _ _ _ => rfl
 simp only [lexC, cmp3, cmpL, Nat.zero_add, Nat.reduceAdd, t0, t1, t2]
 by_cases a1 : x.a < y.a
 ·simp [a1]
 ·by_cases a2 : y.a < x.a
  ·simp [a1, a2]
  ·by_cases b1 : x.b < y.b
   ·simp [a1, a2, b1]
   ·by_cases b2 : y.b < x.b
    ·simp [a1, a2, b1, b2]
    ·by_cases c1 : x.c < y.c
     ·simp [a1, a2, b1, b2, c1]
     ·by_cases c2 : y.c < x.c
      ·simp [a1, a2, b1, b2, c1, c2]
      ·simp [a1, a2, b1, b2, c1, c2]
theorem ownT_sort {w : World} {base g cap : Nat} {e : TypeId} {P : List Tr} {d : Array Tr} {m : Nat} {os : Array Obj} (h : w.ownsRow base e 3 (.slice (some ⟨g, 0, none⟩) P.length cap) P.length (trL P)) (hs : d.size = P.length) :
  (sortWorldK trC 3 w g 0 m d os).ownsRow base e 3 (.slice (some ⟨g, 0, none⟩) P.length cap) P.length (trL d.toList) := by
 have hl : d.toList.length = P.length := by simpa using hs
 have hH := holdsK_sortWorldK_c trC 3 w g 0 P.toArray d m os (holdsT_own h) (h.lt g rfl).2 (by simpa using hs)
 rcases h.2 with ⟨h', _⟩ | ⟨g', cap', cur, h', hb, hg, hnc, hcm, hcs, htake⟩
 ·simp at h'
 ·simp only [Value.slice.injEq, Option.some.injEq, Addr.mk.injEq, and_true, true_and] at h'
  obtain ⟨rfl, rfl⟩ := h'
  have hlt : g < w.heap.size := (Array.getElem?_eq_some_iff.1 hg).1
  have hblk : (sortWorldK trC 3 w g 0 m d os).heap[g]? = some (.cells (putCells id 0 (flatK trC 3 d) cur) e (0, 0)) := by
   unfold sortWorldK grow putRowK putRow mapBlock
   rw [Array.getElem?_append_left (by simp [Sort.ahead]; omega), Array.getElem?_modify, if_pos rfl]
   show (w.heap[g]?).map _ = _
   rw [hg]; rfl
  refine ⟨by rw [trL_len, hl], .inr ⟨g, cap, _, rfl, hb, hblk, hnc, hcm, by simp [putCells, hcs], ?_⟩⟩
  have hn3 : P.length * 3 ≤ cap * 3 := Nat.mul_le_mul_right 3 hnc
  apply List.ext_getElem?
  intro t
  by_cases ht : t < P.length * 3
  ·have hc := (hH t (by simpa [hs] using ht)).1
   rw [Nat.zero_add, cell_of_row _ g t _ e (0, 0) hblk] at hc
   have hf := flatT_get d.toList t (by rw [hl]; exact ht)
   rw [List.getElem?_take, if_pos ht, trL_get d.toList t (by rw [hl]; exact ht), Array.getElem?_toList, hc]
   rw [show d.toList.toArray = d by simp] at hf
   rw [id, hf]
   have h3 : t % 3 < 3 := Nat.mod_lt _ (by omega)
   generalize d.toList.getD (t / 3) default = x
   rcases (show t % 3 = 0 ∨ t % 3 = 1 ∨ t % 3 = 2 by omega) with e | e | e <;> rw [e] <;> rfl
  ·rw [List.getElem?_take, if_neg ht, List.getElem?_eq_none_iff.2 (by rw [trL_len, hl]; omega)]
set_option maxHeartbeats 1000000 in
set_option maxRecDepth 100000 in
theorem lcmp_any (x y : Tr) (W : World) : Calls Tryz.prog 107 #[.agg #[.int .i64 x.a, .int .i64 x.b, .int .i64 x.c], .agg #[.int .i64 y.a, .int .i64 y.b, .int .i64 y.c]] W fun e w' => e = .returned (.int .i64 (cmpL x y)) ∧ ∃ q os', w' = grow (W.drewN q) os' := by
 obtain ⟨W2, hW2⟩ : ∃ W2, W2 = (W.alloc (.cells #[.int .i64 x.a, .int .i64 x.b, .int .i64 x.c] 96)).alloc (.cells #[.int .i64 y.a, .int .i64 y.b, .int .i64 y.c] 96) := ⟨_, rfl⟩
 have e2 : W2.heap.size = W.heap.size + 1 + 1 := by rw [hW2]; simp
 have hcon := compare_ints _ _ 3 3 (thF x.a x.b x.c) (thF y.a y.b y.c) _ ((th_ints W2 x.a x.b x.c).mono ((Below.refl _ _).alloc (Nat.le_refl _) (.cells #[.int .i64 y.a, .int .i64 y.b, .int .i64 y.c] 3)) (Nat.le_refl _)) (th_ints (W2.alloc (.cells #[.int .i64 x.a, .int .i64 x.b, .int .i64 x.c] 3)) y.a y.b y.c) (by omega) (by omega)
 rw [lexLn, World.size_alloc, e2] at hcon
 rw [hW2] at hcon
 clear hW2 e2
 generalize cmpL x y = r at hcon ⊢
 go_enter Tryz.func107, Tryz.ntmps107
 go_wp2_with (go_at_call 97; (with_reducible refine hcon.mono ?_); rintro e w' ⟨rfl, rfl⟩)
 go_ret
 exact ⟨rfl, grow4T _ _ _ _ _⟩
theorem lcmp_lays (blk off size : Nat) (w : World) : CmpLays Tryz.prog 107 #[] trC 3 cmpL blk off size w :=
 fun _ _ _ _ x y => lcmp_any x y _
set_option maxHeartbeats 1000000 in
theorem sortLn_any (w : World) (base g cap : Nat) (P : List Tr) (h : w.ownsRow base 96 3 (.slice (some ⟨g, 0, none⟩) P.length cap) P.length (trL P)) (h1000 : P.length ≤ 1000) :
  Calls Tryz.prog 106 #[.slice (some ⟨g, 0, none⟩) P.length cap, .func (.func 107) #[] #[]] w fun e w' => e = .returned (.tuple #[]) ∧ ∃ P' : List Tr, P'.length = P.length ∧ P.Perm P' ∧ P'.Pairwise (fun a b => ¬ ltL b a) ∧ w'.ownsRow base 96 3 (.slice (some ⟨g, 0, none⟩) P'.length cap) P'.length (trL P') ∧ Below g w w' ∧ g < w'.heap.size ∧ (∀ k, k ≠ g → k < w.heap.size → w'.heap[k]? = w.heap[k]?) := by
 have hgb : base ≤ g ∧ g < w.heap.size := h.lt g rfl
 have eg : ∀ args w, (callFunc 107 args).run Tryz.prog w = .ok (.enter 107 args) w := enters_of Tryz.func107 (by kernel_rfl) rfl
 have hcon := AnyQ.slices_SortFunc Tryz.sortLn 3 Tryz.isAgg96 Tryz.sizeOf96 trC (fun _ => rfl) (fun x v hv => by simp [trC] at hv; rcases hv with rfl | rfl | rfl <;> rfl) cmpL swo_cmpL 107 #[] g 0 cap P.toArray w eg (lcmp_lays g 0 P.toArray.size w) (holdsT_own h) hgb.2 (by simp; omega)
 rw [show P.toArray.size = P.length from rfl] at hcon
 refine Calls.mono hcon ?_
 rintro e w' ⟨rfl, d', n, os, hp, hs, rfl⟩
 have hsz : d'.size = P.length := by have := hp.1; simpa using this
 refine ⟨rfl, d'.toList, by simpa using hsz, by have := permT_of hp; simpa using this, ?_, ?_, sortT_below (Nat.le_refl _) (by omega), ?_, fun k hk hkw => ?_⟩
 ·have := sortedT_of (d := P.toArray) (by simpa using hsz) hs
  exact this.imp (fun {a b} q e => q ((cmpL_lt _ _).2 e))
 ·have := ownT_sort (m := n) (os := os) h hsz
  rw [show d'.toList.length = P.length by simpa using hsz]
  exact this
 ·exact Nat.lt_of_lt_of_le hgb.2 (size_sortWorldK_c _ _ _ _ _ _ _ _)
 ·unfold sortWorldK grow putRowK putRow mapBlock
  rw [Array.getElem?_append_left (by simp [Sort.ahead]; omega), Array.getElem?_modify, if_neg (fun e => hk e.symm)]
  rfl
end Go.Proofs.YtolkchkedieppaaGreat
