/- Lines of a cut, plainly; and an append into a row that is longer. -/
import Derived.Test.YtolkchkedieppaaGreatZLnA
set_option linter.unusedVariables false
set_option linter.unusedSimpArgs false
namespace Go.Proofs.YtolkchkedieppaaGreat
open Go.RowKit
attribute [local go_sem ↓] Go.wp_at_zero Go.wp_at_succ
/-- the lines of the first k squares, two of each -/
def rawF (S : List Tr) : Nat → List Tr
 | 0 => []
 | k + 1 => rawF S k ++ [⟨(S.getD k default).b, (S.getD k default).a, (S.getD k default).a + (S.getD k default).c⟩, ⟨(S.getD k default).b + (S.getD k default).c, (S.getD k default).a, (S.getD k default).a + (S.getD k default).c⟩]
theorem rawF_len (S : List Tr) : ∀ k, (rawF S k).length = 2 * k
 | 0 => rfl
 | k + 1 => by rw [rawF, List.length_append, rawF_len S k]; simp; omega
/-- a line more: joined to the last one, or behind it -/
def jn (J : List Tr) (l : Tr) : List Tr :=
 if (J.getD (J.length - 1) default).a = l.a ∧ l.b ≤ (J.getD (J.length - 1) default).c then
  J.set (J.length - 1) ⟨(J.getD (J.length - 1) default).a, (J.getD (J.length - 1) default).b, if (J.getD (J.length - 1) default).c < l.c then l.c else (J.getD (J.length - 1) default).c⟩
 else J ++ [l]
/-- the first k + 1 lines, joined -/
def joinF (P : List Tr) : Nat → List Tr
 | 0 => [P.getD 0 default]
 | k + 1 => jn (joinF P k) (P.getD (k + 1) default)
theorem jn_len (J : List Tr) (l : Tr) : J.length ≤ (jn J l).length ∧ (jn J l).length ≤ J.length + 1 := by
 unfold jn; split
 ·simp
 ·simp
theorem joinF_len (P : List Tr) : ∀ k, 1 ≤ (joinF P k).length ∧ (joinF P k).length ≤ k + 1
 | 0 => by simp [joinF]
 | k + 1 => by
  have := joinF_len P k
  have := jn_len (joinF P k) (P.getD (k + 1) default)
  simp only [joinF]; omega
theorem drop_cons_getD (P : List Tr) (m : Nat) (h : m < P.length) : P.drop m = P.getD m default :: P.drop (m + 1) := by
 rw [List.drop_eq_getElem_cons h]; simp [h]
theorem join_get {J P : List Tr} {i : Nat} (h : J.length ≤ i) (hi : i < P.length) : (J ++ P.drop J.length).getD i default = P.getD i default := by
 rw [List.getD_eq_getElem?_getD, List.getD_eq_getElem?_getD, List.getElem?_append_right h, List.getElem?_drop, show J.length + (i - J.length) = i by omega]
theorem join_get_old {J P : List Tr} {i : Nat} (h : i < J.length) : (J ++ P.drop J.length).getD i default = J.getD i default := by
 rw [List.getD_eq_getElem?_getD, List.getD_eq_getElem?_getD, List.getElem?_append_left h]
theorem trL_set : ∀ (P : List Tr) (i : Nat) (x : Tr) (v : Int), i < P.length → x = ⟨(P.getD i default).a, (P.getD i default).b, v⟩ → (trL P).set (i * 3 + 2) (.int .i64 v) = trL (P.set i x)
 | [], i, x, v, h, _ => by simp at h
 | p :: P, 0, x, v, _, e => by
  subst e
  simp [trL, trC]
 | p :: P, i + 1, x, v, h, e => by
  have ih := trL_set P i x v (by simpa using h) (by simpa using e)
  simp only [trL, List.set_cons_succ]
  rw [← ih, List.set_append_right _ _ (by simp [trC]; omega)]
  congr 2
  simp [trC]; omega
theorem join_set {J P : List Tr} {x : Tr} {v : Int} (h1 : 1 ≤ J.length) (hp : J.length ≤ P.length) (e : x = ⟨(J.getD (J.length - 1) default).a, (J.getD (J.length - 1) default).b, v⟩) :
  (trL (J ++ P.drop J.length)).set ((J.length - 1) * 3 + 2) (.int .i64 v) = trL (J.set (J.length - 1) x ++ P.drop (J.set (J.length - 1) x).length) := by
 rw [trL_set (J ++ P.drop J.length) (J.length - 1) x v (by simp; omega) (by rw [join_get_old (by omega)]; exact e), List.length_set, List.set_append_left _ _ (by omega)]
theorem join_push {J P : List Tr} {x : Tr} (hp : J.length < P.length) :
  (trL (J ++ P.drop J.length)).take (J.length * 3) ++ trC x ++ (trL (J ++ P.drop J.length)).drop (J.length * 3 + (trC x).length) = trL ((J ++ [x]) ++ P.drop (J ++ [x]).length) := by
 have e : J ++ [x] ++ P.drop (J ++ [x]).length = J ++ ([x] ++ P.drop (J.length + 1)) := by simp
 rw [e, trL_app, trL_app, trL_app, drop_cons_getD P J.length hp]
 rw [List.take_append_of_le_length (by rw [trL_len]; exact Nat.le_refl _), List.take_of_length_le (by rw [trL_len]; exact Nat.le_refl _)]
 rw [List.drop_append, trL_len]
 rw [List.drop_of_length_le (by rw [trL_len]; omega)]
 simp [trL, trC]
theorem infoLn : (Tryz.prog.info? 96).map (fun i => (i.zero, i.size, i.bytes)) = some (some (.agg #[.int .i64 0, .int .i64 0, .int .i64 0]), 3, 24) := by kernel_rfl
theorem lns_s : Tryz.prog.underlying 92 = some (.slice (Tryz.prog.elem 92)) := by kernel_rfl
theorem lns_z (W : World) : (sizeOf (Tryz.prog.elem 92)).run Tryz.prog W = .ok 3 W := by kernel_rfl
theorem ixLn (b n c i : Nat) (hi : i < n) (W : World) :
  (Instr.indexAt 92 (.slice (some ⟨b, 0, none⟩) n c) (.int .i64 (i : Int))).run Tryz.prog W = .ok (.pointer (some ⟨b, i * 3, none⟩)) W := by
 rw [run_indexAt_slice W _ _ _ _ _ _ lns_s, if_pos ⟨by omega, by omega⟩, lns_z]
 simp only [Result.andThen, Int.toNat_natCast]
 congr 3
 unfold Addr.add
 split
 ·rename_i h; simp [show i = 0 by omega]
 ·simp
theorem ixLn3 (b n c i : Nat) (hi : i < n) (W : World) :
  (Instr.indexAt 92 (.slice (some ⟨b, 3, none⟩) n c) (.int .i64 (i : Int))).run Tryz.prog W = .ok (.pointer (some ⟨b, (i + 1) * 3, none⟩)) W := by
 rw [run_indexAt_slice W _ _ _ _ _ _ lns_s, if_pos ⟨by omega, by omega⟩, lns_z]
 simp only [Result.andThen, Int.toNat_natCast]
 congr 3
 unfold Addr.add
 split
 ·rename_i h; simp [show i = 0 by omega]
 ·simp; omega
theorem newT2 (w : World) (x y : Tr) (t : TypeId) : ∀ j u, (trC x ++ trC y)[j]? = some u → (w.alloc (.cells #[.int .i64 x.a, .int .i64 x.b, .int .i64 x.c, .int .i64 y.a, .int .i64 y.b, .int .i64 y.c] t)).cell? ((⟨w.heap.size, 0, none⟩ : Addr).add j) = some u := fun j u hj => by
 have hadd : (⟨w.heap.size, 0, none⟩ : Addr).add j = ⟨w.heap.size, j, none⟩ := by unfold Addr.add; split <;> simp_all
 rw [hadd]
 simp [go_sem]
 exact hj
theorem newT1 (w : World) (x : Tr) (t : TypeId) : ∀ j u, (trC x)[j]? = some u → (w.alloc (.cells #[.int .i64 x.a, .int .i64 x.b, .int .i64 x.c] t)).cell? ((⟨w.heap.size, 0, none⟩ : Addr).add j) = some u := fun j u hj => by
 have hadd : (⟨w.heap.size, 0, none⟩ : Addr).add j = ⟨w.heap.size, j, none⟩ := by unfold Addr.add; split <;> simp_all
 rw [hadd]
 simp [go_sem]
 exact hj
theorem trC2_one (x y : Tr) : ∀ u ∈ trC x ++ trC y, u.oneCell' = true := fun u hu => by
 rcases List.mem_append.1 hu with h | h
 ·exact trC_one x u h
 ·exact trC_one y u h
/-- an append to the first k elements of a row that holds more: it is made in place -/
theorem wpList_append_inner {P : Program} (w : World) {ops : Array Oper} {rest : List Oper} {o : Oper} {a : Act} {Q : Exit → Act → World → Prop}
  (hgd : o.guard = none) (s x : Operand) (t : TypeId) (hop : o.op = Op.call { callee := Callee.builtin Builtin.append, args := #[s, x], argTypes := #[t, t] })
  (base : Nat) (e : TypeId) (i : TypeInfo) (size : Nat) (h1 : P.underlying t = some (.slice e)) (h2 : P.info? e = some i) (h4 : i.size = size)
  (g k N cap : Nat) (xs : List Value) (hs : a.eval s = .slice (some ⟨g, 0, none⟩) k cap) (hown : w.ownsRow base e size (.slice (some ⟨g, 0, none⟩) N cap) N xs) (ad : Addr) (m c : Nat) (news : List Value) (hx : a.eval x = .slice (some ad) m c) (hn : news.length = m * size)
  (hc : ∀ j u, news[j]? = some u → w.cell? (ad.add j) = some u) (h1c : ∀ u ∈ news, u.oneCell' = true) (b1 : k + m ≤ N)
  (hK : ∀ w', w'.ownsRow base e size (.slice (some ⟨g, 0, none⟩) N cap) N (xs.take (k * size) ++ news ++ xs.drop (k * size + news.length)) → w.grownBy w' (some g) → wpList P ops Q rest (a.put o.dst (.slice (some ⟨g, 0, none⟩) (k + m) cap)) w') :
  wpList P ops Q (o :: rest) a w := by
 subst h4
 rcases hown.2 with ⟨h', _⟩ | ⟨g', cap', cur, h', hb, hg, hnc, hcm, hcs, htake⟩
 ·simp at h'
 ·simp only [Value.slice.injEq, Option.some.injEq, Addr.mk.injEq, and_true, true_and] at h'
  obtain ⟨rfl, rfl⟩ := h'
  have hle : (k + m) * i.size ≤ N * i.size := Nat.mul_le_mul_right _ b1
  have hle2 : N * i.size ≤ cap * i.size := Nat.mul_le_mul_right _ hnc
  rw [Nat.add_mul] at hle
  have hfit : k * i.size + news.length ≤ cur.size := by omega
  have hrun := run_append_room (P := P) w t o.type e i h1 h2 g k cap cur hg ad m c news hn hc h1c (by omega) hfit
  refine wpList_plain hgd fun K hK' => ?_
  unfold Oper.wp
  simp only [execOp, hop, resolve, invoke, builtin, Sem.run_bind, Sem.run_pure, Result.andThen_ok, List.map_toArray, List.map_cons, List.map_nil, hs, hx, hrun]
  refine hK' _ _ (hK _ ⟨?_, .inr ⟨g, cap, _, rfl, hb, setRow_heap w g cur _ e _ hg, hnc, hcm, ?_, ?_⟩⟩ ⟨rfl, rfl, rfl, by simp, fun q _ hq => setRow_other w g q _ (fun e => hq (by simp [e]))⟩)
  ·have := hown.1
   simp only [List.length_append, List.length_take, List.length_drop, this]
   omega
  ·simp only [List.size_toArray, List.length_append, List.length_take, List.length_drop, Array.length_toList]
   omega
  ·have hx1 : xs.take (k * i.size) = cur.toList.take (k * i.size) := by rw [← htake, List.take_take, Nat.min_eq_left (by omega)]
   rw [hx1, ← htake, List.take_append, List.take_of_length_le (by simp; omega), List.drop_take]
   congr 2
   simp only [List.length_append, List.length_take, Array.length_toList]
   omega
end Go.Proofs.YtolkchkedieppaaGreat

/- Network's closures: the first line that lies below a place. -/
namespace Go.Proofs.YtolkchkedieppaaGreat
open Go.RowKit
attribute [local go_sem ↓] Go.wp_at_zero Go.wp_at_succ
/-- line l lies at height y and holds place x -/
def onL (l : Tr) (x y : Int) : Prop := l.a = y ∧ l.b ≤ x ∧ x < l.c
instance (l : Tr) (x y : Int) : Decidable (onL l x y) := by unfold onL; infer_instance
/-- the first such line -/
def onF (J : List Tr) (x y : Int) : Int :=
 match J.findIdx? (fun l => decide (onL l x y)) with
 | some k => (k : Int)
 | none => -1
def NoOn (J : List Tr) (x y : Int) (k : Nat) : Prop := ∀ j, j < k → ¬ onL (J.getD j default) x y
theorem onF_hit {J : List Tr} {x y : Int} {k : Nat} (hk : k < J.length) (h : onL (J.getD k default) x y) (hn : NoOn J x y k) : onF J x y = (k : Int) := by
 have e : J.findIdx? (fun l => decide (onL l x y)) = some k := by
  rw [List.findIdx?_eq_some_iff_getElem]
  refine ⟨hk, ?_, fun j hj => ?_⟩
  ·simpa [hk] using h
  ·have := hn j hj
   simpa [show j < J.length by omega] using this
 unfold onF; rw [e]
theorem onF_none {J : List Tr} {x y : Int} (hn : NoOn J x y J.length) : onF J x y = -1 := by
 have e : J.findIdx? (fun l => decide (onL l x y)) = none := by
  rw [List.findIdx?_eq_none_iff]
  intro l hl
  obtain ⟨j, hj, rfl⟩ := List.getElem_of_mem hl
  have := hn j hj
  simpa [hj] using this
 unfold onF; rw [e]
/-- the lines and the two numbers, in variables of their own -/
structure OnM (w : World) (g c yb xb : Nat) (J : List Tr) (x y : Int) : Prop where
 row : TrR w g 0 J
 lt : g < w.heap.size
 ly : yb < w.heap.size
 lx : xb < w.heap.size
 y : w.cell? ⟨yb, 0, none⟩ = some (.int .i64 y)
 x : w.cell? ⟨xb, 0, none⟩ = some (.int .i64 x)
theorem OnM.below {w w' : World} {g c yb xb : Nat} {J : List Tr} {x y : Int} (h : OnM w g c yb xb J x y) (hb : Below w.heap.size w w') : OnM w' g c yb xb J x y :=
 ⟨h.row.below hb h.lt, Nat.lt_of_lt_of_le h.lt hb.size, Nat.lt_of_lt_of_le h.ly hb.size, Nat.lt_of_lt_of_le h.lx hb.size, (hb.cell (p := ⟨yb, 0, none⟩) h.ly).trans h.y, (hb.cell (p := ⟨xb, 0, none⟩) h.lx).trans h.x⟩
theorem on1_any (w : World) (l : Tr) (yb xb : Nat) (x y : Int) (hy : w.cell? ⟨yb, 0, none⟩ = some (.int .i64 y)) (hx : w.cell? ⟨xb, 0, none⟩ = some (.int .i64 x)) (ly : yb < w.heap.size) (lx : xb < w.heap.size) (r : Bool) (hr : r = true ↔ onL l x y) :
  Calls Tryz.prog 58 #[.agg #[.int .i64 l.a, .int .i64 l.b, .int .i64 l.c], .pointer (some ⟨yb, 0, none⟩), .pointer (some ⟨xb, 0, none⟩)] w fun e w' => e = .returned (.bool r) ∧ Below w.heap.size w w' := by
 have KW := Lib.hid ((Below.refl w.heap.size w).alloc (Nat.le_refl _) (.cells #[.int .i64 l.a, .int .i64 l.b, .int .i64 l.c] 96))
 have zy := (KW.out.cell (p := ⟨yb, 0, none⟩) ly).trans hy
 have zx := (KW.out.cell (p := ⟨xb, 0, none⟩) lx).trans hx
 clear hy hx ly lx
 by_cases c1 : l.a = y
 ·have d1 : (l.a == y) = true := by simpa using c1
  have d1d : decide (l.a = y) = true := by simpa using c1
  by_cases c2 : l.b ≤ x
  ·have d2 : decide (l.b ≤ x) = true := by simpa using c2
   by_cases c3 : x < l.c
   ·have d3 : decide (x < l.c) = true := by simpa using c3
    have HR : Hid (r = true) := Lib.hid (hr.2 ⟨c1, c2, c3⟩)
    clear c1 c2 c3 hr
    go_enter Tryz.func58, Tryz.ntmps58
    go_wp2
    go_ret
    exact ⟨by rw [HR.out]; rfl, KW.out⟩
   ·have d3 : decide (x < l.c) = false := by simpa using c3
    have HR : Hid (r = false) := Lib.hid (by
     rcases e : r with _ | _
     ·rfl
     ·exact absurd (hr.1 e).2.2 c3)
    clear c1 c2 c3 hr
    go_enter Tryz.func58, Tryz.ntmps58
    go_wp2
    go_ret
    exact ⟨by rw [HR.out]; rfl, KW.out⟩
  ·have d2 : decide (l.b ≤ x) = false := by simpa using c2
   have HR : Hid (r = false) := Lib.hid (by
    rcases e : r with _ | _
    ·rfl
    ·exact absurd (hr.1 e).2.1 c2)
   clear c1 c2 hr
   go_enter Tryz.func58, Tryz.ntmps58
   go_wp2
   go_ret
   exact ⟨by rw [HR.out]; rfl, KW.out⟩
 ·have d1 : (l.a == y) = false := by simpa using c1
  have d1d : decide (l.a = y) = false := by simpa using c1
  have HR : Hid (r = false) := Lib.hid (by
   rcases e : r with _ | _
   ·rfl
   ·exact absurd (hr.1 e).1 c1)
  clear c1 hr
  go_enter Tryz.func58, Tryz.ntmps58
  go_wp2
  go_ret
  exact ⟨by rw [HR.out]; rfl, KW.out⟩
set_option maxHeartbeats 1000000 in
theorem on2_any (w : World) (g c yb xb : Nat) (J : List Tr) (x y : Int) (hM : OnM w g c yb xb J x y) (hJ : J.length ≤ 1000) :
  Calls Tryz.prog 57 #[.slice (some ⟨g, 0, none⟩) J.length c, .func (.func 58) #[] #[.pointer (some ⟨yb, 0, none⟩), .pointer (some ⟨xb, 0, none⟩)]] w fun e w' => e = .returned (.int .i64 (onF J x y)) ∧ Below w.heap.size w w' := by
 have HM := Lib.hid hM
 clear hM
 go_enter Tryz.func57, Tryz.ntmps57
 go_wp2
 go_loopw [5, 8] (fun _ i wr => ∃ k : Nat, k ≤ J.length ∧ i = .int .i64 (k : Nat) ∧ Hid (NoOn J x y k) ∧ Hid (Below w.heap.size w wr)) (fun _ i _ => J.length - (intOf i).toNat)
 case atStart => exact ⟨0, by omega, rfl, Lib.hid (fun i hi => by omega), Lib.hid (Below.refl _ _)⟩
 case round =>
  obtain ⟨k, hk, rfl, HG, KB⟩ := hrel
  by_cases h : k < J.length
  ·have e1 : decide ((k : Int) < ((J.length : Nat) : Int)) = true := by simpa using h
   have e1n : decide (k < J.length) = true := by simpa using h
   have hix := fun W => ixLn g J.length c k h W
   have MM := Lib.hid (HM.out.below KB.out)
   have x0 := MM.out.row.c0 k h
   have x1 := MM.out.row.c1 k h
   have x2 := MM.out.row.c2 k h
   simp only [Nat.zero_add] at x0 x1 x2
   obtain ⟨q, hq⟩ : ∃ q, q = J.getD k default := ⟨_, rfl⟩
   rw [← hq] at x0 x1 x2
   have HX := Lib.hid hq
   clear hq
   by_cases hb : onL q x y
   ·have HB := Lib.hid hb
    clear hb
    go_wp2_with (go_at_call 58; (with_reducible refine (on1_any _ q yb xb x y MM.out.y MM.out.x MM.out.ly MM.out.lx true ⟨fun _ => HB.out, fun _ => rfl⟩).mono ?_); rintro e w' ⟨rfl, hb2⟩)
    go_ret
    exact ⟨by rw [onF_hit h (by rw [← HX.out]; exact HB.out) HG.out]; rfl, KB.out.trans (hb2.mono KB.out.size)⟩
   ·have HB := Lib.hid hb
    clear hb
    go_wp2_with (go_at_call 58; (with_reducible refine (on1_any _ q yb xb x y MM.out.y MM.out.x MM.out.ly MM.out.lx false ⟨fun q => Bool.noConfusion q, fun q => absurd q HB.out⟩).mono ?_); rintro e w' ⟨rfl, hb2⟩; have HB2 := Lib.hid hb2; clear hb2)
    go_roundw
    case rel => exact ⟨k + 1, by omega, by go_num, Lib.hid (fun j hj => by
     by_cases e : j = k
     ·rw [e, ← HX.out]; exact HB.out
     ·exact HG.out j (by omega)), Lib.hid (KB.out.trans (HB2.out.mono KB.out.size))⟩
    case measure => simp [intOf]; omega
  ·obtain rfl : k = J.length := by omega
   have e1 : decide (((J.length : Nat) : Int) < ((J.length : Nat) : Int)) = false := by simp
   go_wp2
   go_ret
   exact ⟨by rw [onF_none HG.out]; rfl, KB.out⟩
theorem on_any (w : World) (g c nb : Nat) (J : List Tr) (x y : Int) (hn : w.cell? ⟨nb, 0, none⟩ = some (.slice (some ⟨g, 0, none⟩) J.length c)) (hr : TrR w g 0 J) (hg : g < w.heap.size) (hb : nb < w.heap.size) (hJ : J.length ≤ 1000) :
  Calls Tryz.prog 56 #[.int .i64 x, .int .i64 y, .pointer (some ⟨nb, 0, none⟩)] w fun e w' => e = .returned (.int .i64 (onF J x y)) ∧ Below w.heap.size w w' := by
 have KB := Lib.hid (((Below.refl w.heap.size w).alloc (Nat.le_refl _) (.cells #[.int .i64 x] 3)).alloc (by simp) (.cells #[.int .i64 y] 3))
 have zn := (KB.out.cell (p := ⟨nb, 0, none⟩) hb).trans hn
 have HM : Hid (OnM ((w.alloc (.cells #[.int .i64 x] 3)).alloc (.cells #[.int .i64 y] 3)) g c (w.heap.size + 1) w.heap.size J x y) := Lib.hid
  ⟨hr.below KB.out hg, by simp; omega, by simp, by simp; omega, by simp [go_sem], by simp [go_sem]⟩
 clear hn hr hg hb
 go_enter Tryz.func56, Tryz.ntmps56
 go_wp2_with (go_at_call 57; (with_reducible refine (on2_any _ g c _ _ J x y HM.out hJ).mono ?_); rintro e w' ⟨rfl, hb2⟩)
 go_ret
 exact ⟨rfl, KB.out.trans (hb2.mono (by simp; omega))⟩
end Go.Proofs.YtolkchkedieppaaGreat
