/- The shelf's sorts at this program, in plain words (written by the kit's lay-plain.mjs). -/
import Derived.Shelf.SlSortCmp.NoneTotal
import Derived.Ground.SlsfProg
import Derived.Test.YtolkchkedieppaaGreatProg
import Derived.Test.YtolkchkedieppaaGreatVSame1
import Derived.Lib.SliceRun
import Derived.Deep.AppendLies
namespace Go.Proofs
open Go.Shelf
def Tryz.sortSq_ren : Go.Shelf.Ren := ⟨fun | 6 => 104 | 15 => 135 | 14 => 136 | 28 => 168 | 29 => 169 | 20 => 170 | 21 => 171 | 22 => 172 | 23 => 173 | 24 => 174 | 25 => 175 | 26 => 176 | 27 => 177 | 46 => 198 | 47 => 194 | 48 => 195 | 49 => 199 | 50 => 200 | 57 => 205 | n => n, fun | 22 => 23 | 24 => 47 | 25 => 150 | 3 => 3 | 39 => 167 | 0 => 0 | 53 => 166 | 55 => 163 | 4 => 4 | 46 => 199 | 45 => 198 | 50 => 203 | 5 => 5 | 9 => 9 | 66 => 223 | 70 => 227 | 76 => 233 | 77 => 44 | n => n, fun | n => n⟩
theorem Tryz.sortSq : Go.Proofs.SlLaysF0.n6 Tryz.prog Tryz.sortSq_ren := {
 mixed := by kernel_rfl
 f6 := ⟨Tryz.f104.name, by decide, Tryz.func104.trans (congrArg some (by kernel_rfl))⟩
 f14 := ⟨Tryz.f136.name, by decide, Tryz.func136.trans (congrArg some (by kernel_rfl))⟩
 f15 := Tryz.func135.trans (congrArg some (by kernel_rfl))
 f20 := ⟨Tryz.f170.name, by decide, Tryz.func170.trans (congrArg some (by kernel_rfl))⟩
 f21 := ⟨Tryz.f171.name, by decide, Tryz.func171.trans (congrArg some (by kernel_rfl))⟩
 f22 := ⟨Tryz.f172.name, by decide, Tryz.func172.trans (congrArg some (by kernel_rfl))⟩
 f23 := ⟨Tryz.f173.name, by decide, Tryz.func173.trans (congrArg some (by kernel_rfl))⟩
 f24 := ⟨Tryz.f174.name, by decide, Tryz.func174.trans (congrArg some (by kernel_rfl))⟩
 f25 := ⟨Tryz.f175.name, by decide, Tryz.func175.trans (congrArg some (by kernel_rfl))⟩
 f26 := ⟨Tryz.f176.name, by decide, Tryz.func176.trans (congrArg some (by kernel_rfl))⟩
 f27 := ⟨Tryz.f177.name, by decide, Tryz.func177.trans (congrArg some (by kernel_rfl))⟩
 f28 := Tryz.func168.trans (congrArg some (by kernel_rfl))
 f29 := Tryz.func169.trans (congrArg some (by kernel_rfl))
 f46 := ⟨Tryz.f198.name, by decide, Tryz.func198.trans (congrArg some (by kernel_rfl))⟩
 f47 := Tryz.func194.trans (congrArg some (by kernel_rfl))
 f48 := Tryz.func195.trans (congrArg some (by kernel_rfl))
 f49 := ⟨Tryz.f199.name, by decide, Tryz.func199.trans (congrArg some (by kernel_rfl))⟩
 f50 := ⟨Tryz.f200.name, by decide, Tryz.func200.trans (congrArg some (by kernel_rfl))⟩
 f57 := ⟨Tryz.f205.name, by decide, Tryz.func205.trans (congrArg some (by kernel_rfl))⟩
 t0 := Tryz.underlying0
 a0 := Tryz.isAgg0
 z0 := Tryz.sizeOf0
 v0 := Tryz.zeroValue0
 t3 := Tryz.underlying3
 a3 := Tryz.isAgg3
 z3 := Tryz.sizeOf3
 v3 := Tryz.zeroValue3
 t4 := Tryz.underlying4
 a4 := Tryz.isAgg4
 z4 := Tryz.sizeOf4
 v4 := Tryz.zeroValue4
 t5 := Tryz.underlying5
 a5 := Tryz.isAgg5
 z5 := Tryz.sizeOf5
 v5 := Tryz.zeroValue5
 t9 := Tryz.underlying9
 a9 := Tryz.isAgg9
 z9 := Tryz.sizeOf9
 v9 := Tryz.zeroValue9
 t22 := Tryz.underlying23
 a22 := Tryz.isAgg23
 z22 := Tryz.sizeOf23
 v22 := Tryz.zeroValue23
 t25 := Tryz.underlying150
 a25 := Tryz.isAgg150
 z25 := Tryz.sizeOf150
 v25 := Tryz.zeroValue150
 t39 := Tryz.underlying167
 a39 := Tryz.isAgg167
 z39 := Tryz.sizeOf167
 v39 := Tryz.zeroValue167
 t45 := Tryz.underlying198
 a45 := Tryz.isAgg198
 z45 := Tryz.sizeOf198
 v45 := Tryz.zeroValue198
 t46 := Tryz.underlying199
 a46 := Tryz.isAgg199
 z46 := Tryz.sizeOf199
 v46 := Tryz.zeroValue199
 t50 := Tryz.underlying203
 a50 := Tryz.isAgg203
 z50 := Tryz.sizeOf203
 v50 := Tryz.zeroValue203
 t53 := Tryz.underlying166
 a53 := Tryz.isAgg166
 z53 := Tryz.sizeOf166
 v53 := Tryz.zeroValue166
 t55 := Tryz.underlying163
 a55 := Tryz.isAgg163
 z55 := Tryz.sizeOf163
 v55 := Tryz.zeroValue163
 t66 := Tryz.underlying223
 a66 := Tryz.isAgg223
 z66 := Tryz.sizeOf223
 v66 := Tryz.zeroValue223
 t70 := Tryz.underlying227
 a70 := Tryz.isAgg227
 z70 := Tryz.sizeOf227
 v70 := Tryz.zeroValue227
 t76 := Tryz.underlying233
 a76 := Tryz.isAgg233
 z76 := Tryz.sizeOf233
 v76 := Tryz.zeroValue233
 t77 := Tryz.underlying44
 a77 := Tryz.isAgg44
 z77 := Tryz.sizeOf44
 v77 := Tryz.zeroValue44 }
def Tryz.sortLn_ren : Go.Shelf.Ren := ⟨fun | 6 => 106 | 15 => 135 | 14 => 137 | 28 => 168 | 29 => 169 | 20 => 178 | 21 => 179 | 22 => 180 | 23 => 181 | 24 => 182 | 25 => 183 | 26 => 184 | 27 => 185 | 46 => 201 | 47 => 194 | 48 => 195 | 49 => 202 | 50 => 203 | 57 => 206 | n => n, fun | 22 => 92 | 24 => 96 | 25 => 152 | 3 => 3 | 39 => 167 | 0 => 0 | 53 => 166 | 55 => 163 | 4 => 4 | 46 => 199 | 45 => 198 | 50 => 203 | 5 => 5 | 9 => 9 | 66 => 223 | 70 => 227 | 76 => 233 | 77 => 44 | n => n, fun | n => n⟩
theorem Tryz.sortLn : Go.Proofs.SlLaysF0.n6 Tryz.prog Tryz.sortLn_ren := {
 mixed := by kernel_rfl
 f6 := ⟨Tryz.f106.name, by decide, Tryz.func106.trans (congrArg some (by kernel_rfl))⟩
 f14 := ⟨Tryz.f137.name, by decide, Tryz.func137.trans (congrArg some (by kernel_rfl))⟩
 f15 := Tryz.func135.trans (congrArg some (by kernel_rfl))
 f20 := ⟨Tryz.f178.name, by decide, Tryz.func178.trans (congrArg some (by kernel_rfl))⟩
 f21 := ⟨Tryz.f179.name, by decide, Tryz.func179.trans (congrArg some (by kernel_rfl))⟩
 f22 := ⟨Tryz.f180.name, by decide, Tryz.func180.trans (congrArg some (by kernel_rfl))⟩
 f23 := ⟨Tryz.f181.name, by decide, Tryz.func181.trans (congrArg some (by kernel_rfl))⟩
 f24 := ⟨Tryz.f182.name, by decide, Tryz.func182.trans (congrArg some (by kernel_rfl))⟩
 f25 := ⟨Tryz.f183.name, by decide, Tryz.func183.trans (congrArg some (by kernel_rfl))⟩
 f26 := ⟨Tryz.f184.name, by decide, Tryz.func184.trans (congrArg some (by kernel_rfl))⟩
 f27 := ⟨Tryz.f185.name, by decide, Tryz.func185.trans (congrArg some (by kernel_rfl))⟩
 f28 := Tryz.func168.trans (congrArg some (by kernel_rfl))
 f29 := Tryz.func169.trans (congrArg some (by kernel_rfl))
 f46 := ⟨Tryz.f201.name, by decide, Tryz.func201.trans (congrArg some (by kernel_rfl))⟩
 f47 := Tryz.func194.trans (congrArg some (by kernel_rfl))
 f48 := Tryz.func195.trans (congrArg some (by kernel_rfl))
 f49 := ⟨Tryz.f202.name, by decide, Tryz.func202.trans (congrArg some (by kernel_rfl))⟩
 f50 := ⟨Tryz.f203.name, by decide, Tryz.func203.trans (congrArg some (by kernel_rfl))⟩
 f57 := ⟨Tryz.f206.name, by decide, Tryz.func206.trans (congrArg some (by kernel_rfl))⟩
 t0 := Tryz.underlying0
 a0 := Tryz.isAgg0
 z0 := Tryz.sizeOf0
 v0 := Tryz.zeroValue0
 t3 := Tryz.underlying3
 a3 := Tryz.isAgg3
 z3 := Tryz.sizeOf3
 v3 := Tryz.zeroValue3
 t4 := Tryz.underlying4
 a4 := Tryz.isAgg4
 z4 := Tryz.sizeOf4
 v4 := Tryz.zeroValue4
 t5 := Tryz.underlying5
 a5 := Tryz.isAgg5
 z5 := Tryz.sizeOf5
 v5 := Tryz.zeroValue5
 t9 := Tryz.underlying9
 a9 := Tryz.isAgg9
 z9 := Tryz.sizeOf9
 v9 := Tryz.zeroValue9
 t22 := Tryz.underlying92
 a22 := Tryz.isAgg92
 z22 := Tryz.sizeOf92
 v22 := Tryz.zeroValue92
 t25 := Tryz.underlying152
 a25 := Tryz.isAgg152
 z25 := Tryz.sizeOf152
 v25 := Tryz.zeroValue152
 t39 := Tryz.underlying167
 a39 := Tryz.isAgg167
 z39 := Tryz.sizeOf167
 v39 := Tryz.zeroValue167
 t45 := Tryz.underlying198
 a45 := Tryz.isAgg198
 z45 := Tryz.sizeOf198
 v45 := Tryz.zeroValue198
 t46 := Tryz.underlying199
 a46 := Tryz.isAgg199
 z46 := Tryz.sizeOf199
 v46 := Tryz.zeroValue199
 t50 := Tryz.underlying203
 a50 := Tryz.isAgg203
 z50 := Tryz.sizeOf203
 v50 := Tryz.zeroValue203
 t53 := Tryz.underlying166
 a53 := Tryz.isAgg166
 z53 := Tryz.sizeOf166
 v53 := Tryz.zeroValue166
 t55 := Tryz.underlying163
 a55 := Tryz.isAgg163
 z55 := Tryz.sizeOf163
 v55 := Tryz.zeroValue163
 t66 := Tryz.underlying223
 a66 := Tryz.isAgg223
 z66 := Tryz.sizeOf223
 v66 := Tryz.zeroValue223
 t70 := Tryz.underlying227
 a70 := Tryz.isAgg227
 z70 := Tryz.sizeOf227
 v70 := Tryz.zeroValue227
 t76 := Tryz.underlying233
 a76 := Tryz.isAgg233
 z76 := Tryz.sizeOf233
 v76 := Tryz.zeroValue233
 t77 := Tryz.underlying44
 a77 := Tryz.isAgg44
 z77 := Tryz.sizeOf44
 v77 := Tryz.zeroValue44 }
end Go.Proofs

/- Squares of a hide: compared, sorted, cloned. -/
set_option linter.unusedVariables false
set_option linter.unusedSimpArgs false
namespace Go.Proofs.YtolkchkedieppaaGreat
open Go.RowKit Go.Sort Go.Shelf Go.Lib
attribute [local go_sem ↓] Go.wp_at_zero Go.wp_at_succ
/-- three integers: a square (x, y, side), or a line (y, from, to) -/
structure Tr where
 a : Int
 b : Int
 c : Int
instance : Inhabited Tr := ⟨⟨0, 0, 0⟩⟩
def trC (t : Tr) : List Value := [.int .i64 t.a, .int .i64 t.b, .int .i64 t.c]
def trL : List Tr → List Value
 | [] => []
 | x :: l => trC x ++ trL l
theorem trL_len : ∀ P : List Tr, (trL P).length = P.length * 3
 | [] => rfl
 | x :: l => by simp only [trL, List.length_append, trL_len l, List.length_cons]; simp [trC]; omega
theorem trL_app (a b : List Tr) : trL (a ++ b) = trL a ++ trL b := by
 induction a with
 | nil => rfl
 | cons x a ih => simp [trL, ih]
theorem trL_get : ∀ (P : List Tr) (t : Nat) (h : t < P.length * 3), (trL P)[t]? = (trC (P.getD (t / 3) default))[t % 3]?
 | [], t, h => by simp at h
 | x :: l, t, h => by
  simp only [trL]
  by_cases h3 : t < 3
  ·rw [List.getElem?_append_left (by simp [trC]; omega)]
   rw [show t / 3 = 0 by omega, show t % 3 = t by omega]; rfl
  ·rw [List.getElem?_append_right (by simp [trC]; omega)]
   have e : t - (trC x).length = t - 3 := rfl
   rw [e, trL_get l (t - 3) (by simp at h; omega), show t / 3 = (t - 3) / 3 + 1 by omega, show (t - 3) % 3 = t % 3 by omega]
   rfl
/-- triples in a row, as read, from cell o of block g -/
structure TrR (w : World) (g o : Nat) (P : List Tr) : Prop where
 c0 : ∀ i, i < P.length → w.cell? ⟨g, o + i * 3, none⟩ = some (.int .i64 (P.getD i default).a)
 c1 : ∀ i, i < P.length → w.cell? ⟨g, o + i * 3 + 1, none⟩ = some (.int .i64 (P.getD i default).b)
 c2 : ∀ i, i < P.length → w.cell? ⟨g, o + i * 3 + 2, none⟩ = some (.int .i64 (P.getD i default).c)
theorem TrR.below {w w' : World} {g o B : Nat} {P : List Tr} (h : TrR w g o P) (hb : Below B w w') (hg : g < B) : TrR w' g o P :=
 ⟨fun i hi => (hb.cell (p := ⟨g, o + i * 3, none⟩) hg).trans (h.c0 i hi), fun i hi => (hb.cell (p := ⟨g, o + i * 3 + 1, none⟩) hg).trans (h.c1 i hi), fun i hi => (hb.cell (p := ⟨g, o + i * 3 + 2, none⟩) hg).trans (h.c2 i hi)⟩
theorem trR_own {w : World} {base g cap : Nat} {e : TypeId} {P : List Tr} (h : w.ownsRow base e 3 (.slice (some ⟨g, 0, none⟩) P.length cap) P.length (trL P)) : TrR w g 0 P := by
 have h2 : ∀ t, t < P.length * 3 → w.cell? ⟨g, t, none⟩ = (trC (P.getD (t / 3) default))[t % 3]? := fun t ht => by
  rw [h.cellAt t ht, trL_get P t ht]
 refine ⟨fun i hi => ?_, fun i hi => ?_, fun i hi => ?_⟩
 ·rw [Nat.zero_add, h2 (i * 3) (by omega), show i * 3 / 3 = i by omega, show i * 3 % 3 = 0 by omega]; rfl
 ·rw [Nat.zero_add, h2 (i * 3 + 1) (by omega), show (i * 3 + 1) / 3 = i by omega, show (i * 3 + 1) % 3 = 1 by omega]; rfl
 ·rw [Nat.zero_add, h2 (i * 3 + 2) (by omega), show (i * 3 + 2) / 3 = i by omega, show (i * 3 + 2) % 3 = 2 by omega]; rfl
theorem flatT_get (P : List Tr) (t : Nat) (h : t < P.length * 3) : (flatK trC 3 P.toArray)[t]! = (trC (P.getD (t / 3) default))[t % 3]! := by
 rw [get_flatK _ _ _ _ (by simpa using h)]
 have e : P.toArray[t / 3]! = P.getD (t / 3) default := by
  have : t / 3 < P.length := by omega
  simp [this]
 rw [e]
theorem holdsT_own {w : World} {base g cap : Nat} {e : TypeId} {P : List Tr} (h : w.ownsRow base e 3 (.slice (some ⟨g, 0, none⟩) P.length cap) P.length (trL P)) : HoldsK trC 3 w g 0 P.toArray := by
 intro t ht
 have ht2 : t < P.length * 3 := by simpa using ht
 rw [Nat.zero_add]
 refine ⟨?_, h.frozenAt t⟩
 rw [h.cellAt t ht2, trL_get P t ht2, flatT_get P t ht2]
 have h3 : t % 3 < 3 := Nat.mod_lt _ (by omega)
 generalize P.getD (t / 3) default = x
 rcases (show t % 3 = 0 ∨ t % 3 = 1 ∨ t % 3 = 2 by omega) with e | e | e <;> rw [e] <;> rfl
theorem trR_holds {w : World} {g : Nat} {P : List Tr} (h : HoldsK trC 3 w g 0 P.toArray) : TrR w g 0 P := by
 have h2 : ∀ t, t < P.length * 3 → w.cell? ⟨g, t, none⟩ = some ((trC (P.getD (t / 3) default))[t % 3]!) := fun t ht => by
  have := (h t (by simpa using ht)).1
  rw [Nat.zero_add, flatT_get P t ht] at this
  exact this
 refine ⟨fun i hi => ?_, fun i hi => ?_, fun i hi => ?_⟩
 ·rw [Nat.zero_add, h2 (i * 3) (by omega), show i * 3 / 3 = i by omega, show i * 3 % 3 = 0 by omega]; rfl
 ·rw [Nat.zero_add, h2 (i * 3 + 1) (by omega), show (i * 3 + 1) / 3 = i by omega, show (i * 3 + 1) % 3 = 1 by omega]; rfl
 ·rw [Nat.zero_add, h2 (i * 3 + 2) (by omega), show (i * 3 + 2) / 3 = i by omega, show (i * 3 + 2) % 3 = 2 by omega]; rfl
theorem sortT_below {w : World} {B g n : Nat} {d : Array Tr} {os : Array Obj} (hg : B ≤ g) (hB : B ≤ w.heap.size) : Below B w (sortWorldK trC 3 w g 0 n d os) := by
 refine ⟨rfl, rfl, rfl, size_sortWorldK_c _ _ _ _ _ _ _ _, fun k hk => ?_⟩
 unfold sortWorldK grow putRowK putRow mapBlock
 rw [Array.getElem?_append_left (by simp [Sort.ahead]; omega), Array.getElem?_modify, if_neg (by omega)]
 rfl
theorem permT_of {d d' : Array Tr} (h : Go.Sort.PermIn 0 d.size d d') : d.toList.Perm d'.toList := by
 obtain ⟨h1, _, h3⟩ := h
 have e1 : d.extract 0 d.size = d := by simp
 have e2 : d'.extract 0 d.size = d' := by rw [← h1]; simp
 rw [e1, e2] at h3
 exact h3.symm
theorem get_listT (d : Array Tr) (i : Nat) (h : i < d.size) : d[i]! = d.toList[i]'(by simpa using h) := by
 rw [getElem!_pos d i h]; simp
theorem sortedT_of {d d' : Array Tr} {cf : Tr → Tr → Int} (hs : d'.size = d.size) (h : Go.Sort.SortedIn (ltOf cf) 0 d.size d') : d'.toList.Pairwise (fun a b => ¬ cf b a < 0) := by
 rw [List.pairwise_iff_getElem]
 intro i j hi hj hij
 have hi' : i < d'.size := by simpa using hi
 have hj' : j < d'.size := by simpa using hj
 have := h i j (Nat.zero_le _) hij (by omega)
 rw [ltOf, get_listT d' i hi', get_listT d' j hj', decide_eq_false_iff_not] at this
 exact this
/-- how squares are compared: by y, then x -/
def cmpS (p q : Tr) : Int := if p.b < q.b then -1 else if q.b < p.b then 1 else if p.a < q.a then -1 else if q.a < p.a then 1 else 0
def ltS (p q : Tr) : Prop := p.b < q.b ∨ (p.b = q.b ∧ p.a < q.a)
theorem cmpS_lt (p q : Tr) : cmpS p q < 0 ↔ ltS p q := by
 unfold cmpS ltS
 split
 ·simp; omega
 ·split
  ·simp; omega
  ·split
   ·simp; omega
   ·split
    ·simp; omega
    ·simp; omega
theorem swo_cmpS : Go.Sort.SWO (ltOf cmpS) where
 irrefl x := by rw [ltOf, decide_eq_false_iff_not, cmpS_lt]; unfold ltS; omega
 trans x y z h1 h2 := by
  rw [ltOf, decide_eq_true_iff, cmpS_lt] at *
  unfold ltS at *; omega
 ntrans x y z h1 h2 := by
  rw [ltOf, decide_eq_false_iff_not, cmpS_lt] at *
  unfold ltS at *; omega
def twF (p q : Int) : Nat → Int := fun j => if j = 0 then p else q
theorem tw_ints (w : World) (p q : Int) : Ints (w.alloc (.cells #[.int .i64 p, .int .i64 q] 3)) (.slice (some ⟨w.heap.size, 0, none⟩) 2 2) 2 (twF p q) :=
 ints_of_own (base := w.heap.size) ⟨rfl, .inr ⟨w.heap.size, 2, #[.int .i64 p, .int .i64 q], rfl, Nat.le_refl _, heap_alloc_new w _, by omega, by unfold maxLen; omega, rfl, rfl⟩⟩
theorem lexS (x y : Tr) : lexC (twF x.b x.a) (twF y.b y.a) 2 2 2 0 = cmpS x y := by
 simp only [lexC, twF, cmp3, cmpS]
 repeat' split
 all_goals (first | rfl | omega | (exfalso; simp at *; omega) | (simp at *; done) | (simp at *; omega))
theorem grow4T (W : World) (a b c d : Obj) : ∃ q os', (((W.alloc a).alloc b).alloc c).alloc d = grow (W.drewN q) os' :=
 ⟨0, #[a] ++ #[b] ++ #[c] ++ #[d], by rw [alloc_eq_grow, alloc_eq_grow, alloc_eq_grow, alloc_eq_grow, grow_grow, grow_grow, grow_grow]; rfl⟩
set_option maxHeartbeats 1000000 in
set_option maxRecDepth 100000 in
theorem hcmp_any (x y : Tr) (W : World) : Calls Tryz.prog 105 #[.agg #[.int .i64 x.a, .int .i64 x.b, .int .i64 x.c], .agg #[.int .i64 y.a, .int .i64 y.b, .int .i64 y.c]] W fun e w' => e = .returned (.int .i64 (cmpS x y)) ∧ ∃ q os', w' = grow (W.drewN q) os' := by
 obtain ⟨W2, hW2⟩ : ∃ W2, W2 = (W.alloc (.cells #[.int .i64 x.a, .int .i64 x.b, .int .i64 x.c] 47)).alloc (.cells #[.int .i64 y.a, .int .i64 y.b, .int .i64 y.c] 47) := ⟨_, rfl⟩
 have e2 : W2.heap.size = W.heap.size + 1 + 1 := by rw [hW2]; simp
 have hcon := compare_ints _ _ 2 2 (twF x.b x.a) (twF y.b y.a) _ ((tw_ints W2 x.b x.a).mono ((Below.refl _ _).alloc (Nat.le_refl _) (.cells #[.int .i64 y.b, .int .i64 y.a] 3)) (Nat.le_refl _)) (tw_ints (W2.alloc (.cells #[.int .i64 x.b, .int .i64 x.a] 3)) y.b y.a) (by omega) (by omega)
 rw [lexS, World.size_alloc, e2] at hcon
 rw [hW2] at hcon
 clear hW2 e2
 generalize cmpS x y = r at hcon ⊢
 go_enter Tryz.func105, Tryz.ntmps105
 go_wp2_with (go_at_call 97; (with_reducible refine hcon.mono ?_); rintro e w' ⟨rfl, rfl⟩)
 go_ret
 exact ⟨rfl, grow4T _ _ _ _ _⟩
theorem hcmp_lays (blk off size : Nat) (w : World) : CmpLays Tryz.prog 105 #[] trC 3 cmpS blk off size w :=
 fun _ _ _ _ x y => hcmp_any x y _
set_option maxHeartbeats 1000000 in
theorem sortSq_any (w : World) (base g cap : Nat) (P : List Tr) (h : w.ownsRow base 47 3 (.slice (some ⟨g, 0, none⟩) P.length cap) P.length (trL P)) (h1000 : P.length ≤ 1000) :
  Calls Tryz.prog 104 #[.slice (some ⟨g, 0, none⟩) P.length cap, .func (.func 105) #[] #[]] w fun e w' => e = .returned (.tuple #[]) ∧ ∃ P' : List Tr, P'.length = P.length ∧ P.Perm P' ∧ P'.Pairwise (fun a b => ¬ ltS b a) ∧ TrR w' g 0 P' ∧ Below g w w' ∧ g < w'.heap.size ∧ (∀ k, k ≠ g → k < w.heap.size → w'.heap[k]? = w.heap[k]?) := by
 have hgb : base ≤ g ∧ g < w.heap.size := h.lt g rfl
 have eg : ∀ args w, (callFunc 105 args).run Tryz.prog w = .ok (.enter 105 args) w := enters_of Tryz.func105 (by kernel_rfl) rfl
 have hcon := AnyQ.slices_SortFunc Tryz.sortSq 3 Tryz.isAgg47 Tryz.sizeOf47 trC (fun _ => rfl) (fun x v hv => by simp [trC] at hv; rcases hv with rfl | rfl | rfl <;> rfl) cmpS swo_cmpS 105 #[] g 0 cap P.toArray w eg (hcmp_lays g 0 P.toArray.size w) (holdsT_own h) hgb.2 (by simp; omega)
 rw [show P.toArray.size = P.length from rfl] at hcon
 refine Calls.mono hcon ?_
 rintro e w' ⟨rfl, d', n, os, hp, hs, rfl⟩
 have hsz : d'.size = P.length := by have := hp.1; simpa using this
 refine ⟨rfl, d'.toList, by simpa using hsz, by have := permT_of hp; simpa using this, ?_, ?_, sortT_below (Nat.le_refl _) (by omega), ?_, fun k hk hkw => ?_⟩
 ·have := sortedT_of (d := P.toArray) (by simpa using hsz) hs
  exact this.imp (fun {a b} q e => q ((cmpS_lt _ _).2 e))
 ·have := holdsK_sortWorldK_c trC 3 w g 0 P.toArray d' n os (holdsT_own h) hgb.2 (by simpa using hsz)
  exact trR_holds (by simpa using this)
 ·exact Nat.lt_of_lt_of_le hgb.2 (size_sortWorldK_c _ _ _ _ _ _ _ _)
 ·unfold sortWorldK grow putRowK putRow mapBlock
  rw [Array.getElem?_append_left (by simp [Sort.ahead]; omega), Array.getElem?_modify, if_neg (fun e => hk e.symm)]
  rfl
end Go.Proofs.YtolkchkedieppaaGreat

/- Lines of a cut: compared and sorted. -/
namespace Go.Proofs.YtolkchkedieppaaGreat
open Go.RowKit Go.Sort Go.Shelf Go.Lib
attribute [local go_sem ↓] Go.wp_at_zero Go.wp_at_succ
/-- how lines are compared: by y, then from, then to -/
def cmpL (p q : Tr) : Int := if p.a < q.a then -1 else if q.a < p.a then 1 else if p.b < q.b then -1 else if q.b < p.b then 1 else if p.c < q.c then -1 else if q.c < p.c then 1 else 0
def ltL (p q : Tr) : Prop := p.a < q.a ∨ (p.a = q.a ∧ (p.b < q.b ∨ (p.b = q.b ∧ p.c < q.c)))
theorem cmpL_lt (p q : Tr) : cmpL p q < 0 ↔ ltL p q := by
 unfold cmpL ltL
 repeat' split
 all_goals (simp; try omega)
theorem swo_cmpL : Go.Sort.SWO (ltOf cmpL) where
 irrefl x := by rw [ltOf, decide_eq_false_iff_not, cmpL_lt]; unfold ltL; omega
 trans x y z h1 h2 := by
  rw [ltOf, decide_eq_true_iff, cmpL_lt] at *
  unfold ltL at *; omega
 ntrans x y z h1 h2 := by
  rw [ltOf, decide_eq_false_iff_not, cmpL_lt] at *
  unfold ltL at *; omega
def thF (p q r : Int) : Nat → Int := fun j => if j = 0 then p else if j = 1 then q else r
theorem th_ints (w : World) (p q r : Int) : Ints (w.alloc (.cells #[.int .i64 p, .int .i64 q, .int .i64 r] 3)) (.slice (some ⟨w.heap.size, 0, none⟩) 3 3) 3 (thF p q r) :=
 ints_of_own (base := w.heap.size) ⟨rfl, .inr ⟨w.heap.size, 3, #[.int .i64 p, .int .i64 q, .int .i64 r], rfl, Nat.le_refl _, heap_alloc_new w _, by omega, by unfold maxLen; omega, rfl, rfl⟩⟩
theorem lexLn (x y : Tr) : lexC (thF x.a x.b x.c) (thF y.a y.b y.c) 3 3 3 0 = cmpL x y := by
 have t0 : ∀ p q r : Int, thF p q r 0 = p := fun _ _ _ => rfl
 have t1 : ∀ p q r : Int, thF p q r 1 = q := fun _ _ _ => rfl
 have t2 : ∀ p q r : Int, thF p q r 2 = r := fun _ _ _ => rfl
 simp only [lexC, cmp3, cmpL, Nat.zero_add, Nat.reduceAdd, t0, t1, t2]
 by_cases a1 : x.a < y.a
 ·simp [a1]
 ·by_cases a2 : y.a < x.a
  ·simp [a1, a2]
  ·by_cases b1 : x.b < y.b
   ·simp [a1, a2, b1]
   ·by_cases b2 : y.b < x.b
    ·simp [a1, a2, b1, b2]
    ·by_cases c1 : x.c < y.c
     ·simp [a1, a2, b1, b2, c1]
     ·by_cases c2 : y.c < x.c
      ·simp [a1, a2, b1, b2, c1, c2]
      ·simp [a1, a2, b1, b2, c1, c2]
theorem ownT_sort {w : World} {base g cap : Nat} {e : TypeId} {P : List Tr} {d : Array Tr} {m : Nat} {os : Array Obj} (h : w.ownsRow base e 3 (.slice (some ⟨g, 0, none⟩) P.length cap) P.length (trL P)) (hs : d.size = P.length) :
  (sortWorldK trC 3 w g 0 m d os).ownsRow base e 3 (.slice (some ⟨g, 0, none⟩) P.length cap) P.length (trL d.toList) := by
 have hl : d.toList.length = P.length := by simpa using hs
 have hH := holdsK_sortWorldK_c trC 3 w g 0 P.toArray d m os (holdsT_own h) (h.lt g rfl).2 (by simpa using hs)
 rcases h.2 with ⟨h', _⟩ | ⟨g', cap', cur, h', hb, hg, hnc, hcm, hcs, htake⟩
 ·simp at h'
 ·simp only [Value.slice.injEq, Option.some.injEq, Addr.mk.injEq, and_true, true_and] at h'
  obtain ⟨rfl, rfl⟩ := h'
  have hlt : g < w.heap.size := (Array.getElem?_eq_some_iff.1 hg).1
  have hblk : (sortWorldK trC 3 w g 0 m d os).heap[g]? = some (.cells (putCells id 0 (flatK trC 3 d) cur) e (0, 0)) := by
   unfold sortWorldK grow putRowK putRow mapBlock
   rw [Array.getElem?_append_left (by simp [Sort.ahead]; omega), Array.getElem?_modify, if_pos rfl]
   show (w.heap[g]?).map _ = _
   rw [hg]; rfl
  refine ⟨by rw [trL_len, hl], .inr ⟨g, cap, _, rfl, hb, hblk, hnc, hcm, by simp [putCells, hcs], ?_⟩⟩
  have hn3 : P.length * 3 ≤ cap * 3 := Nat.mul_le_mul_right 3 hnc
  apply List.ext_getElem?
  intro t
  by_cases ht : t < P.length * 3
  ·have hc := (hH t (by simpa [hs] using ht)).1
   rw [Nat.zero_add, cell_of_row _ g t _ e (0, 0) hblk] at hc
   have hf := flatT_get d.toList t (by rw [hl]; exact ht)
   rw [List.getElem?_take, if_pos ht, trL_get d.toList t (by rw [hl]; exact ht), Array.getElem?_toList, hc]
   rw [show d.toList.toArray = d by simp] at hf
   rw [id, hf]
   have h3 : t % 3 < 3 := Nat.mod_lt _ (by omega)
   generalize d.toList.getD (t / 3) default = x
   rcases (show t % 3 = 0 ∨ t % 3 = 1 ∨ t % 3 = 2 by omega) with e | e | e <;> rw [e] <;> rfl
  ·rw [List.getElem?_take, if_neg ht, List.getElem?_eq_none_iff.2 (by rw [trL_len, hl]; omega)]
set_option maxHeartbeats 1000000 in
set_option maxRecDepth 100000 in
theorem lcmp_any (x y : Tr) (W : World) : Calls Tryz.prog 107 #[.agg #[.int .i64 x.a, .int .i64 x.b, .int .i64 x.c], .agg #[.int .i64 y.a, .int .i64 y.b, .int .i64 y.c]] W fun e w' => e = .returned (.int .i64 (cmpL x y)) ∧ ∃ q os', w' = grow (W.drewN q) os' := by
 obtain ⟨W2, hW2⟩ : ∃ W2, W2 = (W.alloc (.cells #[.int .i64 x.a, .int .i64 x.b, .int .i64 x.c] 96)).alloc (.cells #[.int .i64 y.a, .int .i64 y.b, .int .i64 y.c] 96) := ⟨_, rfl⟩
 have e2 : W2.heap.size = W.heap.size + 1 + 1 := by rw [hW2]; simp
 have hcon := compare_ints _ _ 3 3 (thF x.a x.b x.c) (thF y.a y.b y.c) _ ((th_ints W2 x.a x.b x.c).mono ((Below.refl _ _).alloc (Nat.le_refl _) (.cells #[.int .i64 y.a, .int .i64 y.b, .int .i64 y.c] 3)) (Nat.le_refl _)) (th_ints (W2.alloc (.cells #[.int .i64 x.a, .int .i64 x.b, .int .i64 x.c] 3)) y.a y.b y.c) (by omega) (by omega)
 rw [lexLn, World.size_alloc, e2] at hcon
 rw [hW2] at hcon
 clear hW2 e2
 generalize cmpL x y = r at hcon ⊢
 go_enter Tryz.func107, Tryz.ntmps107
 go_wp2_with (go_at_call 97; (with_reducible refine hcon.mono ?_); rintro e w' ⟨rfl, rfl⟩)
 go_ret
 exact ⟨rfl, grow4T _ _ _ _ _⟩
theorem lcmp_lays (blk off size : Nat) (w : World) : CmpLays Tryz.prog 107 #[] trC 3 cmpL blk off size w :=
 fun _ _ _ _ x y => lcmp_any x y _
set_option maxHeartbeats 1000000 in
theorem sortLn_any (w : World) (base g cap : Nat) (P : List Tr) (h : w.ownsRow base 96 3 (.slice (some ⟨g, 0, none⟩) P.length cap) P.length (trL P)) (h1000 : P.length ≤ 1000) :
  Calls Tryz.prog 106 #[.slice (some ⟨g, 0, none⟩) P.length cap, .func (.func 107) #[] #[]] w fun e w' => e = .returned (.tuple #[]) ∧ ∃ P' : List Tr, P'.length = P.length ∧ P.Perm P' ∧ P'.Pairwise (fun a b => ¬ ltL b a) ∧ w'.ownsRow base 96 3 (.slice (some ⟨g, 0, none⟩) P'.length cap) P'.length (trL P') ∧ Below g w w' ∧ g < w'.heap.size ∧ (∀ k, k ≠ g → k < w.heap.size → w'.heap[k]? = w.heap[k]?) := by
 have hgb : base ≤ g ∧ g < w.heap.size := h.lt g rfl
 have eg : ∀ args w, (callFunc 107 args).run Tryz.prog w = .ok (.enter 107 args) w := enters_of Tryz.func107 (by kernel_rfl) rfl
 have hcon := AnyQ.slices_SortFunc Tryz.sortLn 3 Tryz.isAgg96 Tryz.sizeOf96 trC (fun _ => rfl) (fun x v hv => by simp [trC] at hv; rcases hv with rfl | rfl | rfl <;> rfl) cmpL swo_cmpL 107 #[] g 0 cap P.toArray w eg (lcmp_lays g 0 P.toArray.size w) (holdsT_own h) hgb.2 (by simp; omega)
 rw [show P.toArray.size = P.length from rfl] at hcon
 refine Calls.mono hcon ?_
 rintro e w' ⟨rfl, d', n, os, hp, hs, rfl⟩
 have hsz : d'.size = P.length := by have := hp.1; simpa using this
 refine ⟨rfl, d'.toList, by simpa using hsz, by have := permT_of hp; simpa using this, ?_, ?_, sortT_below (Nat.le_refl _) (by omega), ?_, fun k hk hkw => ?_⟩
 ·have := sortedT_of (d := P.toArray) (by simpa using hsz) hs
  exact this.imp (fun {a b} q e => q ((cmpL_lt _ _).2 e))
 ·have := ownT_sort (m := n) (os := os) h hsz
  rw [show d'.toList.length = P.length by simpa using hsz]
  exact this
 ·exact Nat.lt_of_lt_of_le hgb.2 (size_sortWorldK_c _ _ _ _ _ _ _ _)
 ·unfold sortWorldK grow putRowK putRow mapBlock
  rw [Array.getElem?_append_left (by simp [Sort.ahead]; omega), Array.getElem?_modify, if_neg (fun e => hk e.symm)]
  rfl
end Go.Proofs.YtolkchkedieppaaGreat

/- A row of integers of the call's own, written. -/
namespace Go.Proofs.YtolkchkedieppaaGreat
open Go.RowKit
theorem own_cap {w : World} {base e size n : Nat} {a : Option Addr} {c : Nat} {xs : List Value} (h : w.ownsRow base e size (.slice a n c) n xs) : n ≤ c := by
 rcases h.2 with ⟨h1, h2⟩ | ⟨g, cap, cur, h1, _, _, h2, _⟩
 ·rw [h2]; exact Nat.zero_le _
 ·cases h1; exact h2
end Go.Proofs.YtolkchkedieppaaGreat
