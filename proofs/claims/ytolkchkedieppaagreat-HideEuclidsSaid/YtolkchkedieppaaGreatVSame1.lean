/- Plain mathematics of relax (Bellman and Ford): what holds of costs and of the arcs by which they came to be; a ring that is found has a cost below 0. No program in sight. -/
import Derived.Test.YtolkchkedieppaaGreatVNum3
import Derived.Test.YtolkchkedieppaaGreatVOpen0
import Derived.Deep.DrawnRows
import Derived.Deep.QuietTactic
import Derived.BigQuiet
set_option linter.unusedVariables false
set_option linter.unusedSimpArgs false
namespace Go.Proofs.YtolkchkedieppaaGreat
def setN {α : Type} (f : Nat → α) (i : Nat) (x : α) : Nat → α := fun j => if j = i then x else f j
theorem setN_self {α : Type} (f : Nat → α) (i : Nat) (x : α) : setN f i x i = x := if_pos rfl
theorem setN_ne {α : Type} (f : Nat → α) {i j : Nat} (x : α) (h : j ≠ i) : setN f i x j = f j := if_neg h
end Go.Proofs.YtolkchkedieppaaGreat

/- General words on slices in memory of the call itself, gathered by append. -/
namespace Go.Proofs.YtolkchkedieppaaGreat
open Go.RowKit
/-- what the call's own slice holds, as a slice that is read -/
theorem Sl.of_own {w : World} {base e n : Nat} {v : Value} {xs : List Value} {q : Nat → Value} (h : w.ownsRow base e 1 v n xs) (hq : ∀ i, i < n → xs[i]? = some (q i)) : Sl w v n q := by
 rcases h.2 with ⟨rfl, rfl⟩ | ⟨g, cap, cur, rfl, hbg, hg, hnc, hcm, hcs, htake⟩
 ·exact ⟨none, 0, 0, 0, rfl, ⟨Nat.le_refl _, fun h => by omega, fun h => by omega, fun i hi => by omega, fun _ => rfl⟩⟩
 ·refine ⟨some ⟨g, 0, none⟩, g, 0, cap, rfl, ⟨hnc, fun _ => rfl, fun _ => (Array.getElem?_eq_some_iff.1 hg).1, fun i hi => ?_, fun e => by cases e⟩⟩
  rw [Nat.zero_add, h.cellAt i (by omega)]
  exact hq i hi
theorem infoI : (Tryz.prog.info? 3).map (fun i => (i.zero, i.size, i.bytes)) = some (some (.int .i64 0), 1, 8) := by kernel_rfl
/-- the first n values, as a list of cells -/
def ics (f : Nat → Int) (n : Nat) : List Value := (List.range n).map (ic f)
theorem ics_get (f : Nat → Int) (n i : Nat) (h : i < n) : (ics f n)[i]? = some (ic f i) := by simp [ics, h]
theorem ics_succ (f : Nat → Int) (n : Nat) : ics f n ++ [.int .i64 (f n)] = ics f (n + 1) := by simp [ics, List.range_succ, ic]
theorem ints_of_own {w : World} {base n : Nat} {v : Value} {f : Nat → Int} (h : w.ownsRow base 3 1 v n (ics f n)) : Ints w v n f := Sl.of_own h (fun i hi => ics_get f n i hi)
theorem own_shape {w : World} {base e size n : Nat} {v : Value} {xs : List Value} (h : w.ownsRow base e size v n xs) : ∃ a c, v = .slice a n c := by
 rcases h.2 with ⟨rfl, rfl⟩ | ⟨g, cap, cur, rfl, _⟩
 ·exact ⟨none, 0, rfl⟩
 ·exact ⟨_, cap, rfl⟩
theorem rowIs_sl {w : World} {b t n : Nat} {f : Nat → Value} (h : w.rowIs b t n f) : IsSl w (some ⟨b, 0, none⟩) b 0 n n f :=
 ⟨Nat.le_refl _, fun _ => rfl, fun _ => h.lt, fun i hi => by rw [Nat.zero_add]; exact h.cell hi, fun e => by cases e⟩
theorem rowIs_below {w w' : World} {b t n B : Nat} {f : Nat → Value} (h : w.rowIs b t n f) (hb : Below B w w') (hB : b < B) : w'.rowIs b t n f := h.of_block (hb.block b hB)
theorem ics_length (f : Nat → Int) (n : Nat) : (ics f n).length = n := by simp [ics]
/-- the cell of a row of one that was just made -/
theorem new1 (w : World) (u : Value) (t : TypeId) : ∀ j x, [u][j]? = some x → (w.alloc (.cells #[u] t)).cell? ((⟨w.heap.size, 0, none⟩ : Addr).add j) = some x := fun j x hj => by
 match j, hj with
 | 0, hj => simp at hj; subst hj; simp [go_sem, Addr.add]
theorem one1 (u : Value) (h : u.oneCell' = true) : ∀ x ∈ [u], x.oneCell' = true := fun x hx => by simp at hx; subst hx; exact h
theorem own_kept {B : Nat} {e : TypeId} {k : Nat} {v : Value} {n : Nat} {xs : List Value} {w w' : World} (h : w.ownsRow B e k v n xs) (hb : Below w.heap.size w w') : w'.ownsRow B e k v n xs :=
 h.kept (row := none) ⟨hb.os, hb.tape, hb.output, hb.size, fun j hj _ => hb.block j hj⟩ (by cases hv : v.ownBlock <;> simp)
theorem add_at (b o j : Nat) : (⟨b, o, none⟩ : Addr).add j = ⟨b, o + j, none⟩ := by unfold Addr.add; split <;> simp_all
def blk (a : Option Addr) : Option Nat := a.map Addr.block
theorem ownBlock_blk (a : Option Addr) (n c : Nat) : (Value.slice a n c).ownBlock = blk a := by cases a <;> rfl
theorem own_base {w : World} {B B' : Nat} {e : TypeId} {s n : Nat} {v : Value} {xs : List Value} (h : w.ownsRow B' e s v n xs) (hB : B ≤ B') : w.ownsRow B e s v n xs := by
 obtain ⟨h1, h2⟩ := h
 refine ⟨h1, ?_⟩
 rcases h2 with h2 | ⟨g, cap, cur, e1, e2, e3⟩
 ·exact .inl h2
 ·exact .inr ⟨g, cap, cur, e1, Nat.le_trans hB e2, e3⟩
end Go.Proofs.YtolkchkedieppaaGreat

/- Euclid of package hide, and the reference's. -/
namespace Go.Proofs.YtolkchkedieppaaGreat
open Go.RowKit
attribute [local go_sem ↓] Go.wp_at_zero Go.wp_at_succ
/-- numbers as cells, and as read -/
def intL (l : List Nat) : List Value := l.map (fun t => .int .i64 (t : Nat))
def eF (l : List Nat) (i : Nat) : Int := ((l.getD i 0 : Nat) : Int)
theorem intL_ics (L : List Nat) : intL L = ics (eF L) L.length := by
 apply List.ext_getElem?
 intro i
 by_cases h : i < L.length
 ·rw [ics_get _ _ _ h]; simp [intL, h, ic, eF]
 ·rw [List.getElem?_eq_none_iff.2 (by simp [intL]; omega), List.getElem?_eq_none_iff.2 (by rw [ics_length]; omega)]
theorem intL_app (l : List Nat) (x : Nat) : intL l ++ [.int .i64 (x : Nat)] = intL (l ++ [x]) := by simp [intL]
theorem ints_intL {w : World} {B : Nat} {v : Value} {L : List Nat} (h : w.ownsRow B 3 1 v L.length (intL L)) : Ints w v L.length (eF L) := by
 rw [intL_ics] at h; exact ints_of_own h
def eucF : Nat → Nat → Nat → List Nat
 | 0, _, _ => []
 | u + 1, a, b => if b = 0 then [] else b :: eucF u (max (a - b) b) (min (a - b) b)
def euc (a b : Nat) : List Nat := eucF (a + b) a b
theorem eucF_same : ∀ u v a b, b ≤ a → a + b ≤ u → a + b ≤ v → eucF u a b = eucF v a b
 | 0, v, a, b, _, h, _ => by
  obtain rfl : b = 0 := by omega
  cases v <;> simp [eucF]
 | u + 1, 0, a, b, _, _, h => by
  obtain rfl : b = 0 := by omega
  simp [eucF]
 | u + 1, v + 1, a, b, hab, h1, h2 => by
  simp only [eucF]
  by_cases e : b = 0
  ·rw [if_pos e, if_pos e]
  ·rw [if_neg e, if_neg e, eucF_same u v _ _ (by omega) (by omega) (by omega)]
theorem euc_zero (a : Nat) : euc a 0 = [] := by
 unfold euc
 cases a <;> simp [eucF]
theorem euc_pos {a b : Nat} (h : b ≤ a) (h0 : 0 < b) : euc a b = b :: euc (max (a - b) b) (min (a - b) b) := by
 unfold euc
 obtain ⟨u, hu⟩ : ∃ u, a + b = u + 1 := ⟨a + b - 1, by omega⟩
 rw [hu]
 simp only [eucF]
 rw [if_neg (by omega), eucF_same u _ _ _ (by omega) (by omega) (Nat.le_refl _)]
theorem euc_len : ∀ u a b, b ≤ a → a + b ≤ u → (euc a b).length ≤ u
 | 0, a, b, hab, h => by
  obtain rfl : b = 0 := by omega
  rw [euc_zero]; simp
 | u + 1, a, b, hab, h => by
  by_cases e : b = 0
  ·subst e; rw [euc_zero]; simp
  ·rw [euc_pos hab (by omega)]
   have := euc_len u (max (a - b) b) (min (a - b) b) (by omega) (by omega)
   simp only [List.length_cons]; omega
set_option maxHeartbeats 2000000 in
set_option maxRecDepth 100000 in
theorem euclid_core (x y : Int) (a0 b0 : Nat) (w : World) (hm1 : (if y < x then y else x) = (b0 : Int)) (hm2 : (if x < y then y else x) = (a0 : Int)) (hab0 : b0 ≤ a0) (hb1 : 1 ≤ b0) (ha1000 : a0 ≤ 1000) (L : List Nat) (hL : L = euc a0 b0) :
  Calls Tryz.prog 38 #[.int .i64 x, .int .i64 y] w fun e w' =>
   ((L.length ≤ 24 ∧ ∃ va vk, e = .returned (.tuple #[.slice va L.length vk, .int .i64 0]) ∧ Ints w' (.slice va L.length vk) L.length (eF L)) ∨
    (24 < L.length ∧ e = .returned (.tuple #[.slice none 0 0, .int .i64 3]))) ∧ Below w.heap.size w w' := by
 obtain ⟨i0, hinf, hz0, hz1, hz2⟩ := info_parts infoI
 have d1 : decide ((b0 : Int) < 1) = false := by simp; omega
 have d1n : decide (b0 < 1) = false := by simp; omega
 have d2 : decide ((1000 : Int) < (a0 : Int)) = false := by simp; omega
 have d2n : decide (1000 < a0) = false := by simp; omega
 have KW0 := Lib.hid (Below.refl w.heap.size w)
 have HL0 : Hid (([] : List Nat) ++ euc a0 b0 = L) := Lib.hid (by rw [hL]; rfl)
 clear hL hb1
 go_enter Tryz.func38, Tryz.ntmps38
 go_wp2
 go_loopw [6, 7, 8] (fun v6 v7 v8 wr => ∃ (out : List Nat) (a b : Nat), b ≤ a ∧ a ≤ 1000 ∧ v7 = .int .i64 (a : Nat) ∧ v8 = .int .i64 (b : Nat) ∧ out.length ≤ 24 ∧ ∃ va vk, v6 = .slice va out.length vk ∧ Hid (out ++ euc a b = L) ∧ Hid (wr.ownsRow w.heap.size 3 1 (.slice va out.length vk) out.length (intL out)) ∧ Hid (Below w.heap.size w wr)) (fun _ v7 v8 _ => (intOf v7).toNat + (intOf v8).toNat)
 case atStart => exact ⟨[], a0, b0, hab0, ha1000, rfl, rfl, by simp, none, 0, rfl, HL0, Lib.hid (World.ownsRow_nil _ _ _ _), KW0⟩
 case round =>
  clear KW0 HL0 hm1 hm2 d1 d1n d2 d2n hab0 ha1000
  obtain ⟨out, a, b, hab, ha, rfl, rfl, hol, va, vk, rfl, HLL, OW, KW⟩ := hrel
  by_cases h : 0 < b
  ·have e1 : decide ((0 : Int) < (b : Int)) = true := by simpa using h
   have e1n : decide (0 < b) = true := by simpa using h
   by_cases h24 : out.length = 24
   ·have e2 : (((out.length : Nat) : Int) == 24) = true := by rw [h24]; rfl
    have e2n : (out.length == 24) = true := by rw [h24]; rfl
    have HQ : Hid (24 < L.length) := Lib.hid (by rw [← HLL.out, euc_pos hab h]; simp; omega)
    clear h24
    go_wp2
    go_ret2
    exact ⟨.inr ⟨HQ.out, rfl⟩, KW.out⟩
   ·have e2 : (((out.length : Nat) : Int) == 24) = false := by simp; omega
    have e2n : (out.length == 24) = false := by simpa using h24
    have HL2 : Hid ((out ++ [b]) ++ euc (max (a - b) b) (min (a - b) b) = L) := Lib.hid (by rw [← HLL.out, euc_pos hab h]; simp)
    have hw1 : IntKind.i64.wrap ((a : Int) - (b : Int)) = ((a - b : Nat) : Int) := by rw [IntKind.wrap_i64]; omega
    have hm3 : max ((a - b : Nat) : Int) (b : Int) = ((max (a - b) b : Nat) : Int) := by omega
    have hm4 : min ((a - b : Nat) : Int) (b : Int) = ((min (a - b) b : Nat) : Int) := by omega
    have hlt : max (a - b) b + min (a - b) b < a + b := by omega
    have hle : min (a - b) b ≤ max (a - b) b := by omega
    have hl1 : max (a - b) b ≤ 1000 := by omega
    obtain ⟨a1, ha1⟩ : ∃ a1, a1 = max (a - b) b := ⟨_, rfl⟩
    obtain ⟨b1, hb1⟩ : ∃ b1, b1 = min (a - b) b := ⟨_, rfl⟩
    rw [← ha1] at hm3 hlt hle hl1 HL2
    rw [← hb1] at hm4 hlt hle HL2
    have hm3n : (if ((a - b : Nat) : Int) < (b : Int) then (b : Int) else ((a - b : Nat) : Int)) = (a1 : Int) := by rw [ha1]; split <;> omega
    have hm4n : (if (b : Int) < ((a - b : Nat) : Int) then (b : Int) else ((a - b : Nat) : Int)) = (b1 : Int) := by rw [hb1]; split <;> omega
    have HSZ := Lib.hid KW.out.size
    have HBK := Lib.hid OW.out.lt
    clear ha1 hb1
    go_wp2_with (at_builtin; refine wpList_append_own _ rfl (.tmp 40) (.tmp 42) 22 rfl w.heap.size 3 i0 (.int .i64 0) 1 8 Tryz.underlying22 hinf hz0 hz1 hz2 rfl (by decide) (.slice va out.length vk) out.length (intL out) rfl (OW.out.alloc _) ⟨wr.heap.size, 0, none⟩ 1 1 [.int .i64 (b : Nat)] rfl rfl (new1 wr (.int .i64 (b : Nat)) 3) (one1 _ rfl) (by unfold maxLen; omega) (by omega) (by simp; have := HSZ.out; omega) ?_; intro v' w5 hown hgrow _; have KW := Lib.hid ((KW.out.alloc KW.out.size _).grown hgrow (by have := HSZ.out; simp; omega) (fun kk e => (HBK.out kk e).1)); rw [intL_app] at hown; obtain ⟨va', vk', rfl⟩ := own_shape hown; have OW := Lib.hid hown; clear hown hgrow)
    have hl2 : (out ++ [b]).length = out.length + 1 := by simp
    go_roundw
    case rel => exact ⟨out ++ [b], a1, b1, hle, hl1, by first | rfl | go_num, by first | rfl | go_num, by omega, va', vk', by rw [hl2], HL2, by rw [hl2]; exact OW, KW⟩
    case measure => simp [intOf]; omega
  ·obtain rfl : b = 0 := by omega
   have e1 : decide ((0 : Int) < ((0 : Nat) : Int)) = false := by simp
   have HE : Hid (L = out) := Lib.hid (by rw [← HLL.out, euc_zero, List.append_nil])
   go_wp2
   go_ret2
   rw [HE.out]
   exact ⟨.inl ⟨hol, va, vk, rfl, ints_intL OW.out⟩, KW.out⟩
set_option maxHeartbeats 2000000 in
set_option maxRecDepth 100000 in
theorem reuclid_any (x y : Nat) (w : World) (hx : 1 ≤ x) (hx2 : x ≤ 1000) (hy : 1 ≤ y) (hy2 : y ≤ 1000) :
  Calls Tryz.prog 39 #[.int .i64 (x : Nat), .int .i64 (y : Nat)] w fun e w' => ∃ va vk, e = .returned (.slice va (euc (max x y) (min x y)).length vk) ∧ Ints w' (.slice va (euc (max x y) (min x y)).length vk) (euc (max x y) (min x y)).length (eF (euc (max x y) (min x y))) ∧ Below w.heap.size w w' := by
 obtain ⟨i0, hinf, hz0, hz1, hz2⟩ := info_parts infoI
 obtain ⟨L, hL⟩ : ∃ L, L = euc (max x y) (min x y) := ⟨_, rfl⟩
 rw [← hL]
 have KW0 := Lib.hid ((Below.refl w.heap.size w).alloc (Nat.le_refl _) (.cells #[] 3))
 have OW0 : Hid ((w.alloc (.cells #[] 3)).ownsRow w.heap.size 3 1 (.slice (some ⟨w.heap.size, 0, none⟩) 0 0) 0 (intL [])) := Lib.hid (World.ownsRow_made (e := 3) (base := w.heap.size) (size := 1) w #[] 0 (Nat.le_refl _) (by unfold maxLen; omega) rfl)
 have HL0 : Hid (([] : List Nat) ++ euc (max x y) (min x y) = L) := Lib.hid (by rw [hL]; rfl)
 have HLB : Hid (L.length ≤ 2000) := Lib.hid (by rw [hL]; exact euc_len 2000 _ _ (by omega) (by omega))
 clear hL
 go_enter Tryz.func39, Tryz.ntmps39
 go_wp2
 go_loopw [0, 1, 5, 6] (fun v0 v1 v5 v6 wr => ∃ (out : List Nat) (a b : Nat), a ≤ 1000 ∧ b ≤ 1000 ∧ v0 = .int .i64 (a : Nat) ∧ v1 = .int .i64 (b : Nat) ∧ ∃ va vk, v5 = .slice va out.length vk ∧ Hid (out ++ euc (max a b) (min a b) = L) ∧ Hid (wr.ownsRow w.heap.size 3 1 (.slice va out.length vk) out.length (intL out)) ∧ Hid (Below w.heap.size w wr)) (fun v0 v1 _ _ _ => (intOf v0).toNat + (intOf v1).toNat)
 case atStart => exact ⟨[], x, y, hx2, hy2, rfl, rfl, _, 0, rfl, HL0, OW0, KW0⟩
 case round =>
  clear KW0 HL0 OW0 hx hx2 hy hy2
  obtain ⟨out, a, b, ha, hb, rfl, rfl, va, vk, rfl, HLL, OW, KW⟩ := hrel
  have hol : out.length ≤ 2000 := by have h1 := HLB.out; rw [← HLL.out, List.length_append] at h1; omega
  by_cases h1 : 0 < a
  ·have e1 : decide ((0 : Int) < (a : Int)) = true := by simpa using h1
   have e1n : decide (0 < a) = true := by simpa using h1
   by_cases h2 : 0 < b
   ·have e2 : decide ((0 : Int) < (b : Int)) = true := by simpa using h2
    have e2n : decide (0 < b) = true := by simpa using h2
    have hst := euc_pos (a := max a b) (b := min a b) (by omega) (by omega)
    have HSZ := Lib.hid KW.out.size
    have HBK := Lib.hid OW.out.lt
    by_cases h3 : b < a
    ·have e3 : decide ((b : Int) < (a : Int)) = true := by simpa using h3
     have e3n : decide (b < a) = true := by simpa using h3
     have hm : min (a : Int) (b : Int) = (b : Int) := by omega
     have hmn : min a b = b := by omega
     have hw1 : IntKind.i64.wrap ((a : Int) - (b : Int)) = ((a - b : Nat) : Int) := by rw [IntKind.wrap_i64]; omega
     have HL2 : Hid ((out ++ [b]) ++ euc (max (a - b) b) (min (a - b) b) = L) := Lib.hid (by
      rw [← HLL.out, hst, hmn, show max a b - b = a - b by omega]
      simp)
     have hdec : a - b + b < a + b := by omega
     have hl2 : (out ++ [b]).length = out.length + 1 := by simp
     clear hst
     go_wp2_with (at_builtin; refine wpList_append_own _ rfl (.tmp 17) (.tmp 19) 22 rfl w.heap.size 3 i0 (.int .i64 0) 1 8 Tryz.underlying22 hinf hz0 hz1 hz2 rfl (by decide) (.slice va out.length vk) out.length (intL out) rfl (OW.out.alloc _) ⟨wr.heap.size, 0, none⟩ 1 1 [.int .i64 (b : Nat)] rfl rfl (new1 wr (.int .i64 (b : Nat)) 3) (one1 _ rfl) (by unfold maxLen; omega) (by omega) (by simp; have := HSZ.out; omega) ?_; intro v' w5 hown hgrow _; have KW := Lib.hid ((KW.out.alloc KW.out.size _).grown hgrow (by have := HSZ.out; simp; omega) (fun kk e => (HBK.out kk e).1)); rw [intL_app] at hown; obtain ⟨va', vk', rfl⟩ := own_shape hown; have OW := Lib.hid hown; clear hown hgrow)
     go_roundw
     case rel => exact ⟨out ++ [b], a - b, b, by omega, hb, by first | rfl | go_num, rfl, va', vk', by rw [hl2], HL2, by rw [hl2]; exact OW, KW⟩
     case measure => simp [intOf]; omega
    ·have e3 : decide ((b : Int) < (a : Int)) = false := by simpa using h3
     have e3n : decide (b < a) = false := by simpa using h3
     have hm : min (a : Int) (b : Int) = (a : Int) := by omega
     have hmn : min a b = a := by omega
     have hw1 : IntKind.i64.wrap ((b : Int) - (a : Int)) = ((b - a : Nat) : Int) := by rw [IntKind.wrap_i64]; omega
     have HL2 : Hid ((out ++ [a]) ++ euc (max a (b - a)) (min a (b - a)) = L) := Lib.hid (by
      rw [← HLL.out, hst, hmn, show max a b - a = b - a by omega, Nat.max_comm (b - a), Nat.min_comm (b - a)]
      simp)
     have hdec : a + (b - a) < a + b := by omega
     have hl2 : (out ++ [a]).length = out.length + 1 := by simp
     clear hst
     go_wp2_with (at_builtin; refine wpList_append_own _ rfl (.tmp 17) (.tmp 19) 22 rfl w.heap.size 3 i0 (.int .i64 0) 1 8 Tryz.underlying22 hinf hz0 hz1 hz2 rfl (by decide) (.slice va out.length vk) out.length (intL out) rfl (OW.out.alloc _) ⟨wr.heap.size, 0, none⟩ 1 1 [.int .i64 (a : Nat)] rfl rfl (new1 wr (.int .i64 (a : Nat)) 3) (one1 _ rfl) (by unfold maxLen; omega) (by omega) (by simp; have := HSZ.out; omega) ?_; intro v' w5 hown hgrow _; have KW := Lib.hid ((KW.out.alloc KW.out.size _).grown hgrow (by have := HSZ.out; simp; omega) (fun kk e => (HBK.out kk e).1)); rw [intL_app] at hown; obtain ⟨va', vk', rfl⟩ := own_shape hown; have OW := Lib.hid hown; clear hown hgrow)
     go_roundw
     case rel => exact ⟨out ++ [a], a, b - a, ha, by omega, rfl, by first | rfl | go_num, va', vk', by rw [hl2], HL2, by rw [hl2]; exact OW, KW⟩
     case measure => simp [intOf]; omega
   ·obtain rfl : b = 0 := by omega
    have e2 : decide ((0 : Int) < ((0 : Nat) : Int)) = false := by simp
    have HE : Hid (L = out) := Lib.hid (by rw [← HLL.out, show min a 0 = 0 by omega, euc_zero, List.append_nil])
    go_wp2
    go_ret
    rw [HE.out]
    exact ⟨va, vk, rfl, ints_intL OW.out, KW.out⟩
  ·obtain rfl : a = 0 := by omega
   have e1 : decide ((0 : Int) < ((0 : Nat) : Int)) = false := by simp
   have HE : Hid (L = out) := Lib.hid (by rw [← HLL.out, show min 0 b = 0 by omega, euc_zero, List.append_nil])
   go_wp2
   go_ret
   rw [HE.out]
   exact ⟨va, vk, rfl, ints_intL OW.out, KW.out⟩
theorem euclid_bad (x y m M : Int) (w : World) (hm : (if y < x then y else x) = m) (hM : (if x < y then y else x) = M) (h : m < 1 ∨ 1000 < M) :
  Calls Tryz.prog 38 #[.int .i64 x, .int .i64 y] w fun e w' => e = .returned (.tuple #[.slice none 0 0, .int .i64 1]) ∧ w = w' := by
 by_cases h1 : m < 1
 ·have d1 : decide (m < 1) = true := by simpa using h1
  clear h h1
  go_enter Tryz.func38, Tryz.ntmps38
  go_wp2
  go_ret2
  exact ⟨rfl, rfl⟩
 ·have d1 : decide (m < 1) = false := by simpa using h1
  have d2 : decide (1000 < M) = true := by simp; omega
  clear h h1
  go_enter Tryz.func38, Tryz.ntmps38
  go_wp2
  go_ret2
  exact ⟨rfl, rfl⟩
end Go.Proofs.YtolkchkedieppaaGreat

/- slices.Compare of integers. -/
namespace Go.Proofs.YtolkchkedieppaaGreat
open Go.RowKit
attribute [local go_sem ↓] Go.wp_at_zero Go.wp_at_succ
def cmp3 (x y : Int) : Int := if x < y then -1 else if y < x then 1 else 0
theorem cmp_int (x y : Int) (w : World) : Calls Tryz.prog 133 #[.int .i64 x, .int .i64 y] w fun e w' => e = .returned (.int .i64 (cmp3 x y)) ∧ w = w' := by
 unfold cmp3
 by_cases h1 : x < y
 ·have d1 : decide (x < y) = true := by simpa using h1
  rw [if_pos h1]
  clear h1
  go_enter Tryz.func133, Tryz.ntmps133
  go_wp2
  go_ret
  exact ⟨rfl, rfl⟩
 ·have d1 : decide (x < y) = false := by simpa using h1
  rw [if_neg h1]
  clear h1
  by_cases h2 : y < x
  ·have d2 : decide (y < x) = true := by simpa using h2
   rw [if_pos h2]
   clear h2
   go_enter Tryz.func133, Tryz.ntmps133
   go_wp2
   go_ret
   exact ⟨rfl, rfl⟩
  ·have d2 : decide (y < x) = false := by simpa using h2
   rw [if_neg h2]
   clear h2
   go_enter Tryz.func133, Tryz.ntmps133
   go_wp2
   go_ret
   exact ⟨rfl, rfl⟩
/-- slices.Compare -/
def lexC (f g : Nat → Int) (n m : Nat) : Nat → Nat → Int
 | 0, _ => if n < m then -1 else 0
 | u + 1, k => if m ≤ k then 1 else if cmp3 (f k) (g k) = 0 then lexC f g n m u (k + 1) else cmp3 (f k) (g k)
set_option maxHeartbeats 2000000 in
set_option maxRecDepth 100000 in
theorem compare_ints (v1 v2 : Value) (n m : Nat) (f g : Nat → Int) (w : World) (h1 : Ints w v1 n f) (h2 : Ints w v2 m g) (hn : n ≤ 1048576) (hm : m ≤ 1048576) :
  Calls Tryz.prog 97 #[v1, v2] w fun e w' => e = .returned (.int .i64 (lexC f g n m n 0)) ∧ w = w' := by
 obtain ⟨a1, b1, o1, c1, rfl, s1⟩ := h1
 obtain ⟨a2, b2, o2, c2, rfl, s2⟩ := h2
 have S1 := Lib.hid s1
 have S2 := Lib.hid s2
 clear s1 s2
 go_enter Tryz.func97, Tryz.ntmps97
 go_wp2
 go_loopw [11] (fun v11 wr => ∃ k : Nat, k ≤ n ∧ v11 = .int .i64 (k : Nat) ∧ Hid (lexC f g n m n 0 = lexC f g n m (n - k) k) ∧ w = wr) (fun v11 _ => n - (intOf v11).toNat)
 case atStart => exact ⟨0, by omega, rfl, Lib.hid rfl, rfl⟩
 case round =>
  obtain ⟨k, hk, rfl, HX, rfl⟩ := hrel
  by_cases h : k < n
  ·have hstep : lexC f g n m (n - k) k = if m ≤ k then 1 else if cmp3 (f k) (g k) = 0 then lexC f g n m (n - (k + 1)) (k + 1) else cmp3 (f k) (g k) := by
    rw [show n - k = (n - (k + 1)) + 1 by omega]; rfl
   have ix1 := fun W => ixI S1.out k c1 h W
   have x1 := S1.out.cell k h
   simp only [ic] at x1
   by_cases hmk : m ≤ k
   ·rw [if_pos hmk] at hstep
    have HST := Lib.hid hstep
    have d1 : decide ((m : Int) ≤ (k : Int)) = true := by simpa using hmk
    have d1n : decide (m ≤ k) = true := by simpa using hmk
    clear hstep hmk
    go_wp2
    go_ret
    exact ⟨by rw [HX.out, HST.out]; rfl, rfl⟩
   ·rw [if_neg hmk] at hstep
    have h3 : k < m := by omega
    have d1 : decide ((m : Int) ≤ (k : Int)) = false := by simp; omega
    have d1n : decide (m ≤ k) = false := by simp; omega
    have ix2 := fun W => ixI S2.out k c2 h3 W
    have x2 := S2.out.cell k h3
    simp only [ic] at x2
    clear hmk
    by_cases h0 : cmp3 (f k) (g k) = 0
    ·rw [if_pos h0] at hstep
     have HST := Lib.hid hstep
     have H0 := Lib.hid h0
     clear hstep h0
     go_wp2_with (go_at_call 133; (with_reducible refine (cmp_int _ _ _).mono ?_); rintro e w1 ⟨rfl, rfl⟩; rw [H0.out])
     go_roundw
     case rel => exact ⟨k + 1, by omega, by go_num, Lib.hid (HX.out.trans HST.out), by first | rfl | trivial⟩
     case measure => simp [intOf]; omega
    ·rw [if_neg h0] at hstep
     have HST := Lib.hid hstep
     have d2 : (cmp3 (f k) (g k) != 0) = true := by simpa using h0
     clear hstep h0
     go_wp2_with (go_at_call 133; (with_reducible refine (cmp_int _ _ _).mono ?_); rintro e w1 ⟨rfl, rfl⟩)
     go_ret
     exact ⟨by rw [HX.out, HST.out]; rfl, rfl⟩
  ·obtain rfl : k = n := by omega
   by_cases h3 : k < m
   ·have d1 : decide ((k : Int) < (m : Int)) = true := by simpa using h3
    have d1n : decide (k < m) = true := by simpa using h3
    have HM3 := Lib.hid h3
    clear h3
    go_wp2
    go_ret
    refine ⟨?_, rfl⟩
    rw [HX.out, Nat.sub_self]
    simp only [lexC]
    rw [if_pos HM3.out]
    rfl
   ·have d1 : decide ((k : Int) < (m : Int)) = false := by simpa using h3
    have d1n : decide (k < m) = false := by simpa using h3
    have HM3 := Lib.hid h3
    clear h3
    go_wp2
    go_ret
    refine ⟨?_, rfl⟩
    rw [HX.out, Nat.sub_self]
    simp only [lexC]
    rw [if_neg HM3.out]
    rfl
end Go.Proofs.YtolkchkedieppaaGreat

/- Before of the reference. -/
namespace Go.Proofs.YtolkchkedieppaaGreat
open Go.RowKit
attribute [local go_sem ↓] Go.wp_at_zero Go.wp_at_succ
set_option maxHeartbeats 2000000 in
set_option maxRecDepth 100000 in
theorem before_any (v1 v2 : Value) (n m : Nat) (f g : Nat → Int) (w : World) (h1 : Ints w v1 n f) (h2 : Ints w v2 m g) (hn : n ≤ 1048576) (hm : m ≤ 1048576) :
  Calls Tryz.prog 93 #[v1, v2] w fun e w' => e = .returned (.bool (decide (lexC f g n m n 0 < 0))) ∧ Drawn w w' := by
 obtain ⟨a1, b1, o1, c1, rfl, s1⟩ := h1
 obtain ⟨a2, b2, o2, c2, rfl, s2⟩ := h2
 have S1 := Lib.hid s1
 have S2 := Lib.hid s2
 clear s1 s2
 go_enter Tryz.func93, Tryz.ntmps93
 go_wp2
 go_loopw [5] (fun v5 wr => ∃ k : Nat, k ≤ n ∧ k ≤ m ∧ v5 = .int .i64 (k : Nat) ∧ Hid (lexC f g n m n 0 = lexC f g n m (n - k) k) ∧ Hid (Drawn w wr)) (fun v5 _ => n - (intOf v5).toNat)
 case atStart => exact ⟨0, by omega, by omega, rfl, Lib.hid rfl, Lib.hid (Drawn.refl _)⟩
 case round =>
  obtain ⟨k, hk, hkm, rfl, HX, hd⟩ := hrel
  by_cases h : k < n
  ·have d1 : decide ((k : Int) < (n : Int)) = true := by simpa using h
   have d1n : decide (k < n) = true := by simpa using h
   have hstep : lexC f g n m (n - k) k = if m ≤ k then 1 else if cmp3 (f k) (g k) = 0 then lexC f g n m (n - (k + 1)) (k + 1) else cmp3 (f k) (g k) := by
    rw [show n - k = (n - (k + 1)) + 1 by omega]; rfl
   by_cases h2 : k < m
   ·rw [if_neg (by omega)] at hstep
    have d2 : decide ((k : Int) < (m : Int)) = true := by simpa using h2
    have d2n : decide (k < m) = true := by simpa using h2
    have ix1 := fun W => ixI S1.out k c1 h W
    have ix2 := fun W => ixI S2.out k c2 h2 W
    have x1 := (S1.out.drawn hd.out).cell k h
    have x2 := (S2.out.drawn hd.out).cell k h2
    simp only [ic] at x1 x2
    by_cases he : f k = g k
    ·have d3 : (f k != g k) = false := by simpa using he
     rw [if_pos (by unfold cmp3; rw [if_neg (by omega), if_neg (by omega)])] at hstep
     have HST := Lib.hid hstep
     clear hstep he
     go_wp2
     go_quiet (fail)
     go_wp2
     go_roundw
     case rel => exact ⟨k + 1, by omega, by omega, by go_num, Lib.hid (HX.out.trans HST.out), Lib.hid (hd.out.trans (Drawn.of _ _))⟩
     case measure => simp [intOf]; omega
    ·have d3 : (f k != g k) = true := by simpa using he
     have hlt : (lexC f g n m n 0 < 0) ↔ f k < g k := by
      rw [HX.out, hstep, if_neg (by unfold cmp3; split <;> (try split) <;> omega)]
      unfold cmp3
      split <;> (try split) <;> omega
     have HLT := Lib.hid hlt
     have y1 := x1
     have y2 := x2
     clear hstep he hlt
     go_wp2
     go_quiet (fail)
     go_wp2
     go_quiet (fail)
     go_wp2
     go_ret
     refine ⟨?_, (hd.out.step _).step _⟩
     all_goals (rw [decide_eq_decide.2 HLT.out]; rfl)
   ·obtain rfl : k = m := by omega
    rw [if_pos (Nat.le_refl _)] at hstep
    have d2 : decide ((k : Int) < (k : Int)) = false := by simp
    have d3 : decide ((n : Int) < (k : Int)) = false := by simp; omega
    have d3n : decide (n < k) = false := by simp; omega
    have HST := Lib.hid hstep
    clear hstep h2
    go_wp2
    go_ret
    refine ⟨?_, hd.out⟩
    rw [HX.out, HST.out]; rfl
  ·obtain rfl : k = n := by omega
   have d1 : decide ((k : Int) < (k : Int)) = false := by simp
   have HST : Hid (lexC f g k m (k - k) k = if k < m then -1 else 0) := Lib.hid (by rw [Nat.sub_self]; rfl)
   go_wp2
   go_ret
   refine ⟨?_, hd.out⟩
   rw [HX.out, HST.out]
   by_cases e : k < m
   ·simp [e]
   ·simp [e]
end Go.Proofs.YtolkchkedieppaaGreat

/- ref.Same of equal lists, by Before of any two. -/
namespace Go.Proofs.YtolkchkedieppaaGreat
open Go.RowKit
attribute [local go_sem ↓] Go.wp_at_zero Go.wp_at_succ
theorem lexC_same (f : Nat → Int) (n : Nat) : ∀ u k, u + k = n → lexC f f n n u k = 0
 | 0, k, h => by simp [lexC]
 | u + 1, k, h => by
  unfold lexC
  rw [if_neg (by omega), if_pos (by unfold cmp3; rw [if_neg (by omega), if_neg (by omega)])]
  exact lexC_same f n u (k + 1) (by omega)
theorem before_same (v1 v2 : Value) (n : Nat) (f : Nat → Int) (w : World) (h1 : Ints w v1 n f) (h2 : Ints w v2 n f) (hn : n ≤ 1048576) :
  Calls Tryz.prog 93 #[v1, v2] w fun e w' => e = .returned (.bool false) ∧ Drawn w w' := by
 have h := before_any v1 v2 n n f f w h1 h2 hn hn
 rw [lexC_same f n n 0 (by omega)] at h
 exact h
theorem same_same (v1 v2 : Value) (n : Nat) (f : Nat → Int) (w : World) (h1 : Ints w v1 n f) (h2 : Ints w v2 n f) (hn : n ≤ 1048576) :
  Calls Tryz.prog 40 #[v1, v2] w fun e w' => e = .returned (.bool true) ∧ Drawn w w' := by
 have H1 := Lib.hid h1
 have H2 := Lib.hid h2
 have HD := Lib.hid (Drawn.refl w)
 clear h1 h2
 go_enter Tryz.func40, Tryz.ntmps40
 go_wp2_with (first
  | (go_at_call 93; (with_reducible refine (before_same v1 v2 n f _ (H1.out.drawn HD.out) (H2.out.drawn HD.out) hn).mono ?_); rintro e w1 ⟨rfl, hd⟩; have HD := Lib.hid (HD.out.trans hd); clear hd)
  | (go_at_call 93; (with_reducible refine (before_same v2 v1 n f _ (H2.out.drawn HD.out) (H1.out.drawn HD.out) hn).mono ?_); rintro e w2 ⟨rfl, hd⟩; have HD := Lib.hid (HD.out.trans hd); clear hd))
 go_ret
 exact ⟨rfl, HD.out⟩
end Go.Proofs.YtolkchkedieppaaGreat
