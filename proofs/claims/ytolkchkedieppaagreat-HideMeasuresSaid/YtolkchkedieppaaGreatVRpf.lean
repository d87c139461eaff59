/- Measure, Code, Lay and Order of a cut with its measures. -/
import Derived.Test.YtolkchkedieppaaGreatVLast
import Derived.Test.YtolkchkedieppaaGreatVLawO
import Derived.Test.YtolkchkedieppaaGreatVNetA
import Derived.Test.YtolkchkedieppaaGreatVOwn
import Derived.Test.YtolkchkedieppaaGreatVNetB
import Derived.Laws.OwnMore
import Derived.Deep.DeepCutAuto
import Derived.Deep.CutBlock
import Derived.Test.YtolkchkedieppaaGreatVRdD
import Derived.Shelf.Sort.Plain
import Derived.Shelf.Slices.CompactI
import Derived.Shelf.Slices.Cells
import Derived.Shelf.Slices.In.SortNone
import Derived.Ground.NamesProg
import Derived.Ground.Names2Prog
import Derived.Test.YtolkchkedieppaaGreatProg
import Derived.BigRegion
import Derived.BigQuiet
import Derived.Deep.RegionHeld3
set_option linter.unusedVariables false
set_option linter.unusedSimpArgs false
namespace Go.Proofs.YtolkchkedieppaaGreat
open Go.RowKit
/-- a row of squares of one's own, at the head of its block -/
structure OwS (B : Nat) (w : World) (v : Value) (L : List Tr) : Prop where
 own : w.ownsRow B 47 3 v L.length (trL L)
 ex : ∃ g c, v = .slice (some ⟨g, 0, none⟩) L.length c ∧ B ≤ g ∧ g < w.heap.size ∧ L.length ≤ c ∧ TrR w g 0 L
theorem ows_of {B : Nat} {w : World} {v : Value} {L : List Tr} (h : w.ownsRow B 47 3 v L.length (trL L)) (hp : 0 < L.length) : OwS B w v L := by
 refine ⟨h, ?_⟩
 rcases h.2 with ⟨_, e⟩ | ⟨g, cap, cur, rfl, hbg, hg, hc, _⟩
 ·omega
 ·exact ⟨g, cap, rfl, hbg, (Array.getElem?_eq_some_iff.1 hg).1, hc, trR_own h⟩
theorem OwS.sqV {B : Nat} {w : World} {v : Value} {L : List Tr} (h : OwS B w v L) : SqV w v L := sqV_own h.own
theorem OwS.below {B : Nat} {w w' : World} {v : Value} {L : List Tr} (h : OwS B w v L) (hb : Below w.heap.size w w') : OwS B w' v L := by
 obtain ⟨g, c, rfl, h1, h2, h3, h4⟩ := h.ex
 exact ⟨own_kept h.own hb, g, c, rfl, h1, Nat.lt_of_lt_of_le h2 hb.size, h3, h4.below hb h2⟩
theorem measure_mk {B : Nat} (v : Value) (L : List Tr) (W H : Nat) (w : World) (hv : OwS B w v L) (hm : MkC L W H) (hn : L.length ≤ 24) :
  Calls Tryz.prog 30 #[v] w fun e w' => e = .returned (.tuple #[.int .i64 (W : Nat), .int .i64 (H : Nat), .int .i64 0]) ∧ Below w.heap.size w w' := by
 obtain ⟨g, c, rfl, _, h2, h3, h4⟩ := hv.ex
 have h := measure_good g c L w h4 h2 h3 (hm.cut hn)
 rw [hm.wd, hm.ht] at h
 exact h
theorem code_mk {B : Nat} (v : Value) (L : List Tr) (W H : Nat) (w : World) (hv : OwS B w v L) (hm : MkC L W H) (hn : L.length ≤ 24) :
  Calls Tryz.prog 31 #[v] w fun e w' => ∃ va vk S, e = .returned (.tuple #[.slice va (szL S).length vk, .int .i64 0]) ∧ L.Perm S ∧ S.Pairwise (fun a b => ¬ ltS b a) ∧ MkC S W H ∧ S.length = L.length ∧
   Ints w' (.slice va (szL S).length vk) (szL S).length (eF (szL S)) ∧ Below w.heap.size w w' := by
 obtain ⟨g, c, rfl, _, h2, h3, h4⟩ := hv.ex
 refine (code_good g c L w h4 h2 h3 (hm.cut hn)).mono ?_
 rintro e w' ⟨va, vk, S, B', rfl, hl, hp, hs, hB, ho, hb⟩
 have hmS := hm.perm hp
 refine ⟨va, vk, S, by rw [szL_len, hl], hp, hs, hmS, hl, ?_, hb⟩
 rw [szL_len]
 rw [← hl] at ho
 rw [ics_congr S.length (fun i hi => hmS.eF i hi)] at ho
 exact ints_of_own ho
theorem order_mk {B : Nat} (v : Value) (L S : List Tr) (W H : Nat) (w : World) (hv : OwS B w v L) (hm : MkC L W H) (hn : L.length ≤ 24) (hp : L.Perm S) (hs : S.Pairwise (fun a b => ¬ ltS b a)) :
  Calls Tryz.prog 32 #[v] w fun e w' => ∃ va vk, e = .returned (.slice va S.length vk) ∧ OwS w.heap.size w' (.slice va S.length vk) S ∧ Below w.heap.size w w' := by
 refine (rorder_any v L w hv.sqV (by omega)).mono ?_
 rintro e w' ⟨va, vk, rfl, ho, hb⟩
 rw [hm.ord_eq hp hs, hp.length_eq] at ho
 exact ⟨va, vk, by rw [hp.length_eq], ows_of ho (by rw [← hp.length_eq]; exact hm.pos), hb⟩
end Go.Proofs.YtolkchkedieppaaGreat

/- read of package hide at whatever squares are no cut; Measure and Code of such. -/
namespace Go.Proofs.YtolkchkedieppaaGreat
open Go.RowKit
attribute [local go_sem ↓] Go.wp_at_zero Go.wp_at_succ
theorem first_of {P : Nat → Prop} : ∀ n, (∃ i, i < n ∧ P i) → ∃ i, i < n ∧ P i ∧ ∀ j, j < i → ¬ P j
 | 0, ⟨i, h, _⟩ => by omega
 | n + 1, h => by
  by_cases h1 : ∃ i, i < n ∧ P i
  ·obtain ⟨i, h2, h3⟩ := first_of n h1
   exact ⟨i, by omega, h3⟩
  ·obtain ⟨i, h2, h3⟩ := h
   have : i = n := by
    rcases Nat.lt_or_ge i n with q | q
    ·exact absurd ⟨i, q, h3⟩ h1
    ·omega
   subst this
   exact ⟨i, by omega, h3, fun j hj hp => h1 ⟨j, hj, hp⟩⟩
/-- why squares are no cut -/
def BadS (S : List Tr) (e : Int) : Prop :=
 (24 < S.length ∧ e = 3) ∨ (S.length ≤ 24 ∧ (∃ i, i < S.length ∧ ¬ RgT (S.getD i default)) ∧ e = 1) ∨ (S.length ≤ 24 ∧ (∀ i, i < S.length → RgT (S.getD i default)) ∧ ¬ CutOK S ∧ e = 2)
theorem cut_or_bad (S : List Tr) : CutOK S ∨ ∃ e, BadS S e := by
 by_cases h : CutOK S
 ·exact .inl h
 right
 by_cases h1 : 24 < S.length
 ·exact ⟨3, .inl ⟨h1, rfl⟩⟩
 by_cases h2 : ∃ i, i < S.length ∧ ¬ RgT (S.getD i default)
 ·exact ⟨1, .inr (.inl ⟨by omega, h2, rfl⟩)⟩
 ·refine ⟨2, .inr (.inr ⟨by omega, fun i hi => ?_, h, rfl⟩)⟩
  by_cases h3 : RgT (S.getD i default)
  ·exact h3
  ·exact absurd ⟨i, hi, h3⟩ h2
theorem BadS.ne {S : List Tr} {e : Int} (h : BadS S e) : e ≠ 0 := by
 rcases h with ⟨_, rfl⟩ | ⟨_, _, rfl⟩ | ⟨_, _, _, rfl⟩ <;> decide
theorem read_bad {B : Nat} (va : Option Addr) (vk : Nat) (S : List Tr) (w : World) (e : Int) (ho : w.ownsRow B 47 3 (.slice va S.length vk) S.length (trL S)) (hb : BadS S e) :
  Calls Tryz.prog 54 #[.slice va S.length vk] w fun en w' => en = .returned (.tuple #[.pointer none, .int .i64 e]) ∧ Below w.heap.size w w' := by
 by_cases h0 : 0 < S.length
 ·obtain ⟨g, c, hv, _, h2, h3, h4⟩ := (ows_of ho h0).ex
  injection hv with e1 e2 e3
  subst e1; subst e3
  rcases hb with ⟨h, rfl⟩ | ⟨h, hx, rfl⟩ | ⟨h, hr, hn, rfl⟩
  ·refine (read_long _ _ _ w h).mono ?_
   rintro en w' ⟨rfl, rfl⟩
   exact ⟨rfl, Below.refl _ _⟩
  ·obtain ⟨i, hi, hbad, hok⟩ := first_of _ hx
   exact read_arg g vk S w h4 h2 h3 h i hi (fun j hj => Classical.byContradiction (hok j hj)) hbad
  ·by_cases hp : ∃ i, i < S.length ∧ ∃ j, j < i ∧ ¬ ApT (S.getD i default) (S.getD j default)
   ·obtain ⟨i, hi, hj, hmin⟩ := first_of _ hp
    obtain ⟨j, hji, hna, hjm⟩ := first_of _ hj
    exact read_pair g vk S w h4 h2 h3 h0 h hr i j hji hi (fun a b hba hai => Classical.byContradiction (fun q => hmin a hai ⟨b, hba, q⟩)) (fun b hb => Classical.byContradiction (hjm b hb)) hna
   ·have hap : ∀ i j, j < i → i < S.length → ApT (S.getD i default) (S.getD j default) := fun i j hji hi => Classical.byContradiction (fun q => hp ⟨i, hi, j, hji, q⟩)
    exact read_area g vk S w h4 h2 h3 h0 h hr hap (fun har => hn ⟨h0, h, hr, hap, har⟩)
 ·have hz : S.length = 0 := by omega
  rcases hb with ⟨h, rfl⟩ | ⟨h, ⟨i, hi, _⟩, rfl⟩ | ⟨h, hr, hn, rfl⟩
  ·omega
  ·omega
  ·rw [hz]; exact read_none va vk w
set_option maxHeartbeats 1000000 in
set_option maxRecDepth 100000 in
theorem measure_bad {B : Nat} (va : Option Addr) (vk : Nat) (S : List Tr) (w : World) (e : Int) (ho : w.ownsRow B 47 3 (.slice va S.length vk) S.length (trL S)) (hb : BadS S e) :
  Calls Tryz.prog 30 #[.slice va S.length vk] w fun en w' => en = .returned (.tuple #[.int .i64 0, .int .i64 0, .int .i64 e]) ∧ Below w.heap.size w w' := by
 have hcon := read_bad va vk S w e ho hb
 have hne := hb.ne
 have d1 : (e != 0) = true := by rw [bne_iff_ne]; exact hne
 have d2 : (e == 0) = false := by rw [beq_eq_false_iff_ne]; exact hne
 clear ho hb
 go_enter Tryz.func30, Tryz.ntmps30
 go_wp2_with (go_at_call 54; (with_reducible refine hcon.mono ?_); rintro en w1 ⟨rfl, hK⟩; have KW := Lib.hid hK; clear hK)
 go_ret3
 exact ⟨rfl, KW.out⟩
set_option maxHeartbeats 1000000 in
set_option maxRecDepth 100000 in
theorem code_bad {B : Nat} (va : Option Addr) (vk : Nat) (S : List Tr) (w : World) (e : Int) (ho : w.ownsRow B 47 3 (.slice va S.length vk) S.length (trL S)) (hb : BadS S e) :
  Calls Tryz.prog 31 #[.slice va S.length vk] w fun en w' => en = .returned (.tuple #[.slice none 0 0, .int .i64 e]) ∧ Below w.heap.size w w' := by
 have hcon := read_bad va vk S w e ho hb
 have hne := hb.ne
 have d1 : (e != 0) = true := by rw [bne_iff_ne]; exact hne
 have d2 : (e == 0) = false := by rw [beq_eq_false_iff_ne]; exact hne
 clear ho hb
 go_enter Tryz.func31, Tryz.ntmps31
 go_wp2_with (go_at_call 54; (with_reducible refine hcon.mono ?_); rintro en w1 ⟨rfl, hK⟩; have KW := Lib.hid hK; clear hK)
 go_ret2
 exact ⟨rfl, KW.out⟩
end Go.Proofs.YtolkchkedieppaaGreat

/- The shelf's Sort and Compact of integers at this program, in plain words (written by the kit's lay-plain.mjs). -/
namespace Go.Proofs
open Go.Shelf
def Tryz.sortI_ren : Go.Shelf.Ren := ⟨fun | 189 => 98 | 125 => 135 | 257 => 134 | 128 => 168 | 129 => 169 | 294 => 159 | 295 => 160 | 296 => 161 | 297 => 162 | 298 => 163 | 299 => 164 | 216 => 165 | 300 => 166 | 301 => 167 | 328 => 193 | 329 => 194 | 330 => 195 | 331 => 196 | 332 => 197 | 215 => 158 | 343 => 204 | n => n, fun | 28 => 22 | 3 => 3 | 46 => 167 | 0 => 0 | 51 => 166 | 53 => 163 | 4 => 4 | 183 => 199 | 182 => 198 | 131 => 203 | 5 => 5 | 9 => 9 | 218 => 223 | 222 => 227 | 228 => 233 | 229 => 44 | n => n, fun | n => n⟩
theorem Tryz.sortI : Go.Proofs.Lays.n189 Tryz.prog Tryz.sortI_ren := {
 mixed := by kernel_rfl
 f125 := Tryz.func135.trans (congrArg some (by kernel_rfl))
 f128 := Tryz.func168.trans (congrArg some (by kernel_rfl))
 f129 := Tryz.func169.trans (congrArg some (by kernel_rfl))
 f189 := Tryz.func98.trans (congrArg some (by kernel_rfl))
 f215 := Tryz.func158.trans (congrArg some (by kernel_rfl))
 f216 := Tryz.func165.trans (congrArg some (by kernel_rfl))
 f257 := Tryz.func134.trans (congrArg some (by kernel_rfl))
 f294 := Tryz.func159.trans (congrArg some (by kernel_rfl))
 f295 := Tryz.func160.trans (congrArg some (by kernel_rfl))
 f296 := Tryz.func161.trans (congrArg some (by kernel_rfl))
 f297 := Tryz.func162.trans (congrArg some (by kernel_rfl))
 f298 := Tryz.func163.trans (congrArg some (by kernel_rfl))
 f299 := Tryz.func164.trans (congrArg some (by kernel_rfl))
 f300 := Tryz.func166.trans (congrArg some (by kernel_rfl))
 f301 := Tryz.func167.trans (congrArg some (by kernel_rfl))
 f328 := Tryz.func193.trans (congrArg some (by kernel_rfl))
 f329 := Tryz.func194.trans (congrArg some (by kernel_rfl))
 f330 := Tryz.func195.trans (congrArg some (by kernel_rfl))
 f331 := Tryz.func196.trans (congrArg some (by kernel_rfl))
 f332 := Tryz.func197.trans (congrArg some (by kernel_rfl))
 f343 := Tryz.func204.trans (congrArg some (by kernel_rfl))
 t0 := Tryz.underlying0
 a0 := Tryz.isAgg0
 z0 := Tryz.sizeOf0
 v0 := Tryz.zeroValue0
 t3 := Tryz.underlying3
 a3 := Tryz.isAgg3
 z3 := Tryz.sizeOf3
 v3 := Tryz.zeroValue3
 t4 := Tryz.underlying4
 a4 := Tryz.isAgg4
 z4 := Tryz.sizeOf4
 v4 := Tryz.zeroValue4
 t5 := Tryz.underlying5
 a5 := Tryz.isAgg5
 z5 := Tryz.sizeOf5
 v5 := Tryz.zeroValue5
 t9 := Tryz.underlying9
 a9 := Tryz.isAgg9
 z9 := Tryz.sizeOf9
 v9 := Tryz.zeroValue9
 t28 := Tryz.underlying22
 a28 := Tryz.isAgg22
 z28 := Tryz.sizeOf22
 v28 := Tryz.zeroValue22
 t46 := Tryz.underlying167
 a46 := Tryz.isAgg167
 z46 := Tryz.sizeOf167
 v46 := Tryz.zeroValue167
 t51 := Tryz.underlying166
 a51 := Tryz.isAgg166
 z51 := Tryz.sizeOf166
 v51 := Tryz.zeroValue166
 t53 := Tryz.underlying163
 a53 := Tryz.isAgg163
 z53 := Tryz.sizeOf163
 v53 := Tryz.zeroValue163
 t131 := Tryz.underlying203
 a131 := Tryz.isAgg203
 z131 := Tryz.sizeOf203
 v131 := Tryz.zeroValue203
 t182 := Tryz.underlying198
 a182 := Tryz.isAgg198
 z182 := Tryz.sizeOf198
 v182 := Tryz.zeroValue198
 t183 := Tryz.underlying199
 a183 := Tryz.isAgg199
 z183 := Tryz.sizeOf199
 v183 := Tryz.zeroValue199
 t218 := Tryz.underlying223
 a218 := Tryz.isAgg223
 z218 := Tryz.sizeOf223
 v218 := Tryz.zeroValue223
 t222 := Tryz.underlying227
 a222 := Tryz.isAgg227
 z222 := Tryz.sizeOf227
 v222 := Tryz.zeroValue227
 t228 := Tryz.underlying233
 a228 := Tryz.isAgg233
 z228 := Tryz.sizeOf233
 v228 := Tryz.zeroValue233
 t229 := Tryz.underlying44
 a229 := Tryz.isAgg44
 z229 := Tryz.sizeOf44
 v229 := Tryz.zeroValue44 }
def Tryz.compI_ren : Go.Shelf.Ren := ⟨fun | 20 => 99 | n => n, fun | 22 => 22 | 3 => 3 | 4 => 4 | 0 => 0 | n => n, fun | n => n⟩
theorem Tryz.compI : Go.Proofs.Lays2.n20 Tryz.prog Tryz.compI_ren := {
 mixed := by kernel_rfl
 f20 := Tryz.func99.trans (congrArg some (by kernel_rfl))
 t0 := Tryz.underlying0
 a0 := Tryz.isAgg0
 z0 := Tryz.sizeOf0
 v0 := Tryz.zeroValue0
 t3 := Tryz.underlying3
 a3 := Tryz.isAgg3
 z3 := Tryz.sizeOf3
 v3 := Tryz.zeroValue3
 t4 := Tryz.underlying4
 a4 := Tryz.isAgg4
 z4 := Tryz.sizeOf4
 v4 := Tryz.zeroValue4
 t22 := Tryz.underlying22
 a22 := Tryz.isAgg22
 z22 := Tryz.sizeOf22
 v22 := Tryz.zeroValue22
 i3 := by kernel_rfl }
end Go.Proofs

/- Check, Covers, in, apart of the reference of hide. -/
namespace Go.Proofs.YtolkchkedieppaaGreat
open Go.RowKit
attribute [local go_sem ↓] Go.wp_at_zero Go.wp_at_succ
set_option maxHeartbeats 1000000 in
set_option maxRecDepth 100000 in
theorem rin_any (x a b : Int) (r : Bool) (hr : r = true ↔ a ≤ x ∧ x ≤ b) (w : World) :
  Calls Tryz.prog 59 #[.int .i64 x, .int .i64 a, .int .i64 b] w fun e w' => e = .returned (.bool r) ∧ w = w' := by
 by_cases h1 : a ≤ x
 ·have d1 : decide (a ≤ x) = true := by simpa using h1
  by_cases h2 : x ≤ b
  ·have d2 : decide (x ≤ b) = true := by simpa using h2
   obtain rfl : r = true := hr.2 ⟨h1, h2⟩
   clear hr h1 h2
   go_enter Tryz.func59, Tryz.ntmps59
   go_wp2
   go_ret
   exact ⟨rfl, rfl⟩
  ·have d2 : decide (x ≤ b) = false := by simpa using h2
   obtain rfl : r = false := by
    rcases r with _ | _
    ·rfl
    ·exact absurd (hr.1 rfl).2 h2
   clear hr h1 h2
   go_enter Tryz.func59, Tryz.ntmps59
   go_wp2
   go_ret
   exact ⟨rfl, rfl⟩
 ·have d1 : decide (a ≤ x) = false := by simpa using h1
  obtain rfl : r = false := by
   rcases r with _ | _
   ·rfl
   ·exact absurd (hr.1 rfl).1 h1
  clear hr h1
  go_enter Tryz.func59, Tryz.ntmps59
  go_wp2
  go_ret
  exact ⟨rfl, rfl⟩
set_option maxHeartbeats 2000000 in
set_option maxRecDepth 100000 in
theorem rapart_any (p q : Tr) (r : Bool) (hr : r = true ↔ ApT p q) (w : World) (hp : RgT p) (hq : RgT q) :
  Calls Tryz.prog 108 #[.agg #[.int .i64 p.a, .int .i64 p.b, .int .i64 p.c], .agg #[.int .i64 q.a, .int .i64 q.b, .int .i64 q.c]] w fun e w' => e = .returned (.bool r) ∧ Below w.heap.size w w' := by
 have := hp.a0; have := hp.b0; have := hp.c0; have := hp.c1; have := hp.a1; have := hp.b1
 have := hq.a0; have := hq.b0; have := hq.c0; have := hq.c1; have := hq.a1; have := hq.b1
 have w1 : IntKind.i64.wrap (p.a + p.c) = p.a + p.c := by rw [IntKind.wrap_i64]; omega
 have w2 : IntKind.i64.wrap (q.a + q.c) = q.a + q.c := by rw [IntKind.wrap_i64]; omega
 have w3 : IntKind.i64.wrap (p.b + p.c) = p.b + p.c := by rw [IntKind.wrap_i64]; omega
 have w4 : IntKind.i64.wrap (q.b + q.c) = q.b + q.c := by rw [IntKind.wrap_i64]; omega
 have KW := Lib.hid (((Below.refl w.heap.size w).alloc (Nat.le_refl _) (.cells #[.int .i64 p.a, .int .i64 p.b, .int .i64 p.c] 47)).alloc (by simp) (.cells #[.int .i64 q.a, .int .i64 q.b, .int .i64 q.c] 47))
 by_cases c1 : p.a + p.c ≤ q.a
 ·have d1 : decide (p.a + p.c ≤ q.a) = true := by simpa using c1
  have HR : Hid (r = true) := Lib.hid (hr.2 (.inl c1))
  go_enter Tryz.func108, Tryz.ntmps108
  go_wp2
  go_ret
  exact ⟨by rw [HR.out]; rfl, KW.out⟩
 ·have d1 : decide (p.a + p.c ≤ q.a) = false := by simpa using c1
  by_cases c2 : q.a + q.c ≤ p.a
  ·have d2 : decide (q.a + q.c ≤ p.a) = true := by simpa using c2
   have HR : Hid (r = true) := Lib.hid (hr.2 (.inr (.inl c2)))
   go_enter Tryz.func108, Tryz.ntmps108
   go_wp2
   go_ret
   exact ⟨by rw [HR.out]; rfl, KW.out⟩
  ·have d2 : decide (q.a + q.c ≤ p.a) = false := by simpa using c2
   by_cases c3 : p.b + p.c ≤ q.b
   ·have d3 : decide (p.b + p.c ≤ q.b) = true := by simpa using c3
    have HR : Hid (r = true) := Lib.hid (hr.2 (.inr (.inr (.inl c3))))
    go_enter Tryz.func108, Tryz.ntmps108
    go_wp2
    go_ret
    exact ⟨by rw [HR.out]; rfl, KW.out⟩
   ·have d3 : decide (p.b + p.c ≤ q.b) = false := by simpa using c3
    by_cases c4 : q.b + q.c ≤ p.b
    ·have d4 : decide (q.b + q.c ≤ p.b) = true := by simpa using c4
     have HR : Hid (r = true) := Lib.hid (hr.2 (.inr (.inr (.inr c4))))
     go_enter Tryz.func108, Tryz.ntmps108
     go_wp2
     go_ret
     exact ⟨by rw [HR.out]; rfl, KW.out⟩
    ·have d4 : decide (q.b + q.c ≤ p.b) = false := by simpa using c4
     have HR : Hid (r = false) := Lib.hid (by
      rcases e : r with _ | _
      ·rfl
      ·rcases hr.1 e with q | q | q | q <;> contradiction)
     go_enter Tryz.func108, Tryz.ntmps108
     go_wp2
     go_ret
     exact ⟨by rw [HR.out]; rfl, KW.out⟩
end Go.Proofs.YtolkchkedieppaaGreat

/- Covers of the reference of hide. -/
namespace Go.Proofs.YtolkchkedieppaaGreat
open Go.RowKit
attribute [local go_sem ↓] Go.wp_at_zero Go.wp_at_succ
set_option maxHeartbeats 8000000 in
set_option maxRecDepth 100000 in
theorem rcovers_any (v : Value) (S : List Tr) (r : Bool) (w : World) (hv : SqV w v S) (hn : S.length ≤ 24) (hrg : ∀ i, i < S.length → RgT (S.getD i default)) (hr : r = true ↔ (∀ i j, j < i → i < S.length → ApT (S.getD i default) (S.getD j default)) ∧ arT S S.length = wdT S S.length * htT S S.length) :
  Calls Tryz.prog 60 #[v, .int .i64 0, .int .i64 0] w fun e w' => e = .returned (.bool r) ∧ Below w.heap.size w w' := by
 obtain ⟨a1, c1, rfl, k1⟩ := hv.ex
 have K1 := Lib.hid k1
 clear hv k1
 obtain ⟨n, hN⟩ : ∃ n, n = S.length := ⟨_, rfl⟩
 rw [← hN] at K1 hn hr hrg ⊢
 have HN := Lib.hid hN
 have HR := Lib.hid hr
 have HRG := Lib.hid hrg
 clear hN hr hrg
 go_enter Tryz.func60, Tryz.ntmps60
 go_wp2
 have KB0 := Lib.hid (Below.refl w.heap.size w)
 have AP0 : Hid (∀ i j, j < i → i < 0 → ApT (S.getD i default) (S.getD j default)) := Lib.hid (fun i j _ h => by omega)
 go_loopw [7, 8, 9, 10, 11] (fun v7 v8 v9 v10 v11 wr => ∃ i : Nat, i ≤ n ∧ v10 = .int .i64 (i : Nat) ∧ v7 = .int .i64 (wdT S i) ∧ v8 = .int .i64 (htT S i) ∧ v9 = .int .i64 (arT S i) ∧ Hid (∀ i' j', j' < i' → i' < i → ApT (S.getD i' default) (S.getD j' default)) ∧ Hid (Below w.heap.size w wr)) (fun _ _ _ v10 _ _ => n - (intOf v10).toNat)
 case atStart => exact ⟨0, by omega, rfl, rfl, rfl, rfl, AP0, KB0⟩
 case round =>
  clear AP0 KB0
  obtain ⟨i, hi, rfl, rfl, rfl, rfl, AP, KB⟩ := hrel
  by_cases h : i < n
  ·have e1 : decide ((i : Int) < (n : Int)) = true := by simpa using h
   have e1n : decide (i < n) = true := by simpa using h
   obtain ⟨g1, o1, rfl, r1, l1⟩ := K1.out (by omega)
   have TR := Lib.hid r1
   have HLT := Lib.hid l1
   have ixi := fun X => ixSqo g1 o1 n c1 i h X
   have hmb := meas_boundN HRG.out i hi
   have hrp := HRG.out i h
   obtain ⟨p, hp⟩ : ∃ p, p = S.getD i default := ⟨_, rfl⟩
   rw [← hp] at hrp
   have HP := Lib.hid hp
   have HRP := Lib.hid hrp
   have P3 : Hid (∀ wx, Below w.heap.size w wx → wx.cell? ⟨g1, o1 + i * 3, none⟩ = some (.int .i64 p.a) ∧ wx.cell? ⟨g1, o1 + i * 3 + 1, none⟩ = some (.int .i64 p.b) ∧ wx.cell? ⟨g1, o1 + i * 3 + 2, none⟩ = some (.int .i64 p.c)) := Lib.hid (fun wx hb => by
    have T := TR.out.below hb HLT.out
    have hi2 : i < S.length := by have := HN.out; omega
    rw [hp]; exact ⟨T.c0 i hi2, T.c1 i hi2, T.c2 i hi2⟩)
   have hWn : wdT S (i + 1) = (if wdT S i < p.a + p.c then p.a + p.c else wdT S i) := by rw [hp]; rfl
   have hHn : htT S (i + 1) = (if htT S i < p.b + p.c then p.b + p.c else htT S i) := by rw [hp]; rfl
   have hAn : arT S (i + 1) = arT S i + p.c * p.c := by rw [hp]; rfl
   clear hp r1 l1
   obtain ⟨Wi, hWi⟩ : ∃ W, W = wdT S i := ⟨_, rfl⟩
   obtain ⟨Hi, hHi⟩ : ∃ H, H = htT S i := ⟨_, rfl⟩
   obtain ⟨Ai, hAi⟩ : ∃ A, A = arT S i := ⟨_, rfl⟩
   rw [← hWi] at hWn hmb ⊢
   rw [← hHi] at hHn hmb ⊢
   rw [← hAi] at hAn hmb ⊢
   clear hWi hHi hAi
   have HWn := Lib.hid hWn
   have HHn := Lib.hid hHn
   have HAn := Lib.hid hAn
   have HMB := Lib.hid hmb
   clear hWn hHn hAn hmb hrp
   have IN0 : Hid (∀ j', j' < 0 → ApT p (S.getD j' default)) := Lib.hid (fun j' h => by omega)
   clear e1 e1n
   go_upto_block 2 with (fail)
   go_wp2
   go_loopw [11] (fun v11 wi => ∃ j : Nat, j ≤ i ∧ v11 = .int .i64 (j : Nat) ∧ Hid (∀ j', j' < j → ApT p (S.getD j' default)) ∧ Hid (Below w.heap.size w wi)) (fun v11 _ => i - (intOf v11).toNat)
   case atStart => exact ⟨0, by omega, rfl, IN0, KB⟩
   case round =>
    clear IN0 KB
    obtain ⟨j, hj, rfl, IN, KB⟩ := hrel
    by_cases h2 : j < i
    ·have e3 : decide ((j : Int) < (i : Int)) = true := by simpa using h2
     have e3n : decide (j < i) = true := by simpa using h2
     have ixj := fun X => ixSqo g1 o1 n c1 j (by omega) X
     have hrq := HRG.out j (by omega)
     obtain ⟨q, hq⟩ : ∃ q, q = S.getD j default := ⟨_, rfl⟩
     rw [← hq] at hrq
     have HRQ := Lib.hid hrq
     have Q3 : Hid (∀ wx, Below w.heap.size w wx → wx.cell? ⟨g1, o1 + j * 3, none⟩ = some (.int .i64 q.a) ∧ wx.cell? ⟨g1, o1 + j * 3 + 1, none⟩ = some (.int .i64 q.b) ∧ wx.cell? ⟨g1, o1 + j * 3 + 2, none⟩ = some (.int .i64 q.c)) := Lib.hid (fun wx hb => by
      have T := TR.out.below hb HLT.out
      have hj2 : j < S.length := by have := HN.out; omega
      rw [hq]; exact ⟨T.c0 j hj2, T.c1 j hj2, T.c2 j hj2⟩)
     have KEEP : Hid (∀ w', Below wr.heap.size wr w' → (w'.cell? ⟨g1, o1 + i * 3, none⟩ = some (.int .i64 p.a) ∧ w'.cell? ⟨g1, o1 + i * 3 + 1, none⟩ = some (.int .i64 p.b) ∧ w'.cell? ⟨g1, o1 + i * 3 + 2, none⟩ = some (.int .i64 p.c) ∧ w'.cell? ⟨g1, o1 + j * 3, none⟩ = some (.int .i64 q.a) ∧ w'.cell? ⟨g1, o1 + j * 3 + 1, none⟩ = some (.int .i64 q.b) ∧ w'.cell? ⟨g1, o1 + j * 3 + 2, none⟩ = some (.int .i64 q.c))) := Lib.hid (fun w' hb => by
      obtain ⟨y0, y1, y2⟩ := P3.out w' (KB.out.trans (hb.mono KB.out.size))
      obtain ⟨z0, z1, z2⟩ := Q3.out w' (KB.out.trans (hb.mono KB.out.size))
      exact ⟨y0, y1, y2, z0, z1, z2⟩)
     have VL0 := Lib.hid (Below.refl wr.heap.size wr).drew
     have HQ := Lib.hid hq
     clear hq hrq
     by_cases hap : ApT p q
     ·have HA := Lib.hid hap
      have IN2 : Hid (∀ j', j' < j + 1 → ApT p (S.getD j' default)) := Lib.hid (ext_lt2 (n := j) IN.out (by rw [← HQ.out]; exact hap))
      clear hap
      go_wp2
      go_region_held3 (fun w' => w'.cell? ⟨g1, o1 + i * 3, none⟩ = some (.int .i64 p.a) ∧ w'.cell? ⟨g1, o1 + i * 3 + 1, none⟩ = some (.int .i64 p.b) ∧ w'.cell? ⟨g1, o1 + i * 3 + 2, none⟩ = some (.int .i64 p.c) ∧ w'.cell? ⟨g1, o1 + j * 3, none⟩ = some (.int .i64 q.a) ∧ w'.cell? ⟨g1, o1 + j * 3 + 1, none⟩ = some (.int .i64 q.b) ∧ w'.cell? ⟨g1, o1 + j * 3 + 2, none⟩ = some (.int .i64 q.c))
       (first | (with_reducible exact KEEP.out _ VL0.out) | (with_reducible exact KEEP.out _ VL1.out))
       (first
       | (go_at_call 108; (with_reducible refine (rapart_any p q true ⟨fun _ => HA.out, fun _ => rfl⟩ _ HRP.out HRQ.out).mono ?_); rintro e wx ⟨rfl, hbx⟩; have VL1 := Lib.hid (VL0.out.trans (hbx.mono VL0.out.size)); clear hbx))
      all_goals
       go_wp2
       go_roundw
       case rel => exact ⟨j + 1, by omega, by go_num, IN2, Lib.hid (KB.out.trans (VL1.out.mono KB.out.size))⟩
       case measure => simp [intOf]; omega
     ·have HA := Lib.hid hap
      have HRF : Hid (r = false) := Lib.hid (by
       rcases r with _ | _
       ·rfl
       ·exact absurd (by have := (HR.out.1 rfl).1 i j h2 h; rw [← HP.out, ← HQ.out] at this; exact this) hap)
      clear hap
      go_wp2
      go_region_held3 (fun w' => w'.cell? ⟨g1, o1 + i * 3, none⟩ = some (.int .i64 p.a) ∧ w'.cell? ⟨g1, o1 + i * 3 + 1, none⟩ = some (.int .i64 p.b) ∧ w'.cell? ⟨g1, o1 + i * 3 + 2, none⟩ = some (.int .i64 p.c) ∧ w'.cell? ⟨g1, o1 + j * 3, none⟩ = some (.int .i64 q.a) ∧ w'.cell? ⟨g1, o1 + j * 3 + 1, none⟩ = some (.int .i64 q.b) ∧ w'.cell? ⟨g1, o1 + j * 3 + 2, none⟩ = some (.int .i64 q.c))
       (first | (with_reducible exact KEEP.out _ VL0.out) | (with_reducible exact KEEP.out _ VL1.out))
       (first
       | (go_at_call 108; (with_reducible refine (rapart_any p q false ⟨fun h => Bool.noConfusion h, fun h => absurd h HA.out⟩ _ HRP.out HRQ.out).mono ?_); rintro e wx ⟨rfl, hbx⟩; have VL1 := Lib.hid (VL0.out.trans (hbx.mono VL0.out.size)); clear hbx))
      all_goals
       go_wp2
       go_ret
       exact ⟨by rw [HRF.out]; rfl, KB.out.trans (VL1.out.mono KB.out.size)⟩
    ·obtain rfl : j = i := by omega
     have e3 : decide ((j : Int) < (j : Int)) = false := by simp
     have AP2 : Hid (∀ i' j', j' < i' → i' < j + 1 → ApT (S.getD i' default) (S.getD j' default)) := Lib.hid (fun i' j' h1 h3 => by
      by_cases e : i' = j
      ·subst e; rw [← HP.out]; exact IN.out j' h1
      ·exact AP.out i' j' h1 (by omega))
     obtain ⟨x0, x1, x2⟩ := P3.out wr KB.out
     have hrp := HRP.out
     have hsq := hrp.sq
     have hmb := HMB.out
     have q0 := hrp.a0; have q1 := hrp.b0; have q2 := hrp.c0; have q3 := hrp.c1; have q4 := hrp.a1; have q5 := hrp.b1
     have d1 : decide (p.a < 0) = false := by simp; omega
     have d2 : decide (p.b < 0) = false := by simp; omega
     have w6 : IntKind.i64.wrap (p.a + p.c) = p.a + p.c := by rw [IntKind.wrap_i64]; omega
     have w7 : IntKind.i64.wrap (p.b + p.c) = p.b + p.c := by rw [IntKind.wrap_i64]; omega
     have w8 : IntKind.i64.wrap (p.c * p.c) = p.c * p.c := by rw [IntKind.wrap_i64]; omega
     have w9 : IntKind.i64.wrap (Ai + p.c * p.c) = Ai + p.c * p.c := by rw [IntKind.wrap_i64]; omega
     have hW : (if Wi < p.a + p.c then p.a + p.c else Wi) = wdT S (j + 1) := HWn.out.symm
     have hH : (if Hi < p.b + p.c then p.b + p.c else Hi) = htT S (j + 1) := HHn.out.symm
     have hWm : max Wi (p.a + p.c) = wdT S (j + 1) := by rw [← hW]; split <;> omega
     have hHm : max Hi (p.b + p.c) = htT S (j + 1) := by rw [← hH]; split <;> omega
     clear hrp hsq hmb q0 q1 q2 q3 q4 q5
     go_upto_region 12 with (fail)
     go_quiet (fail)
     go_wp2
     go_roundw
     case rel => exact ⟨j + 1, by omega, by go_num, rfl, rfl, by rw [HAn.out], AP2, Lib.hid (KB.out.trans ((Drawn.of _ _).below _))⟩
     case measure => simp [intOf]; omega
  ·obtain rfl : i = n := by omega
   have e1 : decide ((i : Int) < (i : Int)) = false := by simp
   have hmb := meas_boundN HRG.out i (Nat.le_refl _)
   have hr := HR.out
   obtain ⟨A, hA⟩ : ∃ A, A = arT S i := ⟨_, rfl⟩
   obtain ⟨W, hW⟩ : ∃ W, W = wdT S i := ⟨_, rfl⟩
   obtain ⟨H, hH⟩ : ∃ H, H = htT S i := ⟨_, rfl⟩
   rw [← hA, ← hW, ← hH] at hr
   rw [← hA, ← hW, ← hH] at hmb ⊢
   have hwh : 0 ≤ W * H ∧ W * H ≤ 1000000 := by
    have g1 := Int.mul_nonneg hmb.1 hmb.2.2.1
    have g2 := Int.mul_le_mul hmb.2.1 hmb.2.2.2.1 hmb.2.2.1 (by omega)
    omega
   have w1 : IntKind.i64.wrap (W * H) = W * H := by rw [IntKind.wrap_i64]; omega
   have AP2 : ∀ i' j', j' < i' → i' < i → ApT (S.getD i' default) (S.getD j' default) := AP.out
   clear hA hW hH
   by_cases har : A = W * H
   ·have d1 : (A == W * H) = true := by simpa using har
    have HRT : Hid (r = true) := Lib.hid (hr.2 ⟨AP2, har⟩)
    clear har hr AP2 hmb hwh
    go_wp2
    go_ret
    exact ⟨by rw [HRT.out]; rfl, KB.out⟩
   ·have d1 : (A == W * H) = false := by simpa using har
    have HRT : Hid (r = false) := Lib.hid (by
     rcases r with _ | _
     ·rfl
     ·exact absurd (hr.1 rfl).2 har)
    clear har hr AP2 hmb hwh
    go_wp2
    go_ret
    exact ⟨by rw [HRT.out]; rfl, KB.out⟩
end Go.Proofs.YtolkchkedieppaaGreat

/- Perfect of the reference of hide. -/
namespace Go.Proofs.YtolkchkedieppaaGreat
open Go.RowKit
attribute [local go_sem ↓] Go.wp_at_zero Go.wp_at_succ
/-- no two squares have one size -/
def DistS (S : List Tr) : Prop := ∀ i j, j < i → i < S.length → (S.getD i default).c ≠ (S.getD j default).c
set_option maxHeartbeats 4000000 in
set_option maxRecDepth 100000 in
theorem rperf_any (v : Value) (S : List Tr) (r : Bool) (w : World) (hv : SqV w v S) (hn : S.length ≤ 1000) (hr : r = true ↔ DistS S) :
  Calls Tryz.prog 46 #[v] w fun e w' => e = .returned (.bool r) ∧ Below w.heap.size w w' := by
 obtain ⟨a1, c1, rfl, k1⟩ := hv.ex
 have K1 := Lib.hid k1
 clear hv k1
 unfold DistS at hr
 obtain ⟨n, hN⟩ : ∃ n, n = S.length := ⟨_, rfl⟩
 rw [← hN] at K1 hn hr ⊢
 have HN := Lib.hid hN
 have HR := Lib.hid hr
 clear hN hr
 go_enter Tryz.func46, Tryz.ntmps46
 go_wp2
 have KB0 := Lib.hid (Below.refl w.heap.size w)
 have D0 : Hid (∀ i' j', j' < i' → i' < 0 → (S.getD i' default).c ≠ (S.getD j' default).c) := Lib.hid (fun i j _ h => by omega)
 go_loopw [3, 4] (fun v3 v4 wr => ∃ i : Nat, i ≤ n ∧ v3 = .int .i64 (i : Nat) ∧ Hid (∀ i' j', j' < i' → i' < i → (S.getD i' default).c ≠ (S.getD j' default).c) ∧ Hid (Below w.heap.size w wr)) (fun v3 _ _ => n - (intOf v3).toNat)
 case atStart => exact ⟨0, by omega, rfl, D0, KB0⟩
 case round =>
  clear D0 KB0
  obtain ⟨i, hi, rfl, DD, KB⟩ := hrel
  by_cases h : i < n
  ·have e1 : decide ((i : Int) < (n : Int)) = true := by simpa using h
   have e1n : decide (i < n) = true := by simpa using h
   obtain ⟨g1, o1, rfl, r1, l1⟩ := K1.out (by omega)
   have TR := Lib.hid r1
   have HLT := Lib.hid l1
   have ixi := fun X => ixSqo g1 o1 n c1 i h X
   have hi2 : i < S.length := by have := HN.out; omega
   obtain ⟨p, hp⟩ : ∃ p, p = (S.getD i default).c := ⟨_, rfl⟩
   have HP := Lib.hid hp
   have P3 : Hid (∀ wx, Below w.heap.size w wx → wx.cell? ⟨g1, o1 + i * 3 + 2, none⟩ = some (.int .i64 p)) := Lib.hid (fun wx hb => by rw [hp]; exact (TR.out.below hb HLT.out).c2 i hi2)
   have IN0 : Hid (∀ j', j' < 0 → p ≠ (S.getD j' default).c) := Lib.hid (fun j' h => by omega)
   clear hp hi2 r1 l1
   go_upto_block 2 with (fail)
   clear e1 e1n
   go_wp2
   go_loopw [4] (fun v4 wi => ∃ j : Nat, j ≤ i ∧ v4 = .int .i64 (j : Nat) ∧ Hid (∀ j', j' < j → p ≠ (S.getD j' default).c) ∧ Hid (Below w.heap.size w wi)) (fun v4 _ => i - (intOf v4).toNat)
   case atStart => exact ⟨0, by omega, rfl, IN0, KB⟩
   case round =>
    clear IN0 KB
    obtain ⟨j, hj, rfl, IN, KB⟩ := hrel
    by_cases h2 : j < i
    ·have e3 : decide ((j : Int) < (i : Int)) = true := by simpa using h2
     have e3n : decide (j < i) = true := by simpa using h2
     have ixj := fun X => ixSqo g1 o1 n c1 j (by omega) X
     have hj2 : j < S.length := by have := HN.out; omega
     have x2 := P3.out wr KB.out
     have y2 := (TR.out.below KB.out HLT.out).c2 j hj2
     obtain ⟨q, hq⟩ : ∃ q, q = (S.getD j default).c := ⟨_, rfl⟩
     rw [← hq] at y2
     have HQ := Lib.hid hq
     clear hq hj2
     by_cases hpq : p = q
     ·have f1 : (p == q) = true := by simpa using hpq
      have HRF : Hid (r = false) := Lib.hid (by
       rcases r with _ | _
       ·rfl
       ·exact absurd (by rw [← HP.out, ← HQ.out]; exact hpq) (HR.out.1 rfl i j h2 h))
      clear hpq
      go_upto_region 7 with (fail)
      go_quiet (fail)
      go_wp2
      go_ret
      exact ⟨by rw [HRF.out]; rfl, KB.out.trans ((Drawn.of _ _).below _)⟩
     ·have f1 : (p == q) = false := by simpa using hpq
      have IN2 : Hid (∀ j', j' < j + 1 → p ≠ (S.getD j' default).c) := Lib.hid (ext_lt2 (n := j) IN.out (by rw [← HQ.out]; exact hpq))
      clear hpq
      go_upto_region 7 with (fail)
      go_quiet (fail)
      go_wp2
      go_roundw
      case rel => exact ⟨j + 1, by omega, by go_num, IN2, Lib.hid (KB.out.trans ((Drawn.of _ _).below _))⟩
      case measure => simp [intOf]; omega
    ·obtain rfl : j = i := by omega
     have e3 : decide ((j : Int) < (j : Int)) = false := by simp
     have D2 : Hid (∀ i' j', j' < i' → i' < j + 1 → (S.getD i' default).c ≠ (S.getD j' default).c) := Lib.hid (fun i' j' h1 h3 => by
      by_cases e : i' = j
      ·subst e; rw [← HP.out]; exact IN.out j' h1
      ·exact DD.out i' j' h1 (by omega))
     go_wp2
     go_roundw
     case rel => exact ⟨j + 1, by omega, by go_num, D2, KB⟩
     case measure => simp [intOf]; omega
  ·obtain rfl : i = n := by omega
   have e1 : decide ((i : Int) < (i : Int)) = false := by simp
   have HRT : Hid (r = true) := Lib.hid (HR.out.2 DD.out)
   go_wp2
   go_ret
   exact ⟨by rw [HRT.out]; rfl, KB.out⟩
end Go.Proofs.YtolkchkedieppaaGreat
