/- sets as numbers, their members; the order of lists. -/
import Derived.Test.YtdfkhbflcacbfaaGreatVRdA
import Derived.Test.YtdfkhbflcacbfaaGreatVLayB
import Derived.Test.YtdfkhbflcacbfaaGreatVCod
import Derived.Test.YtdfkhbflcacbfaaGreatVBefA
import Derived.Test.YtdfkhbflcacbfaaGreatVCurA
import Derived.Maps.AppendAt
import Derived.Deep.RegionHeld3
import Derived.Test.YtdfkhbflcacbfaaGreatVRco
set_option linter.unusedVariables false
set_option linter.unusedSimpArgs false
namespace Go.Proofs.YtdfkhbflcacbfaaGreat
open Go.RowKit
/-- the bits of s below i -/
def mem (s i : Nat) : List Nat := (List.range i).filter (fun t => s.testBit t)
def intC (l : List Nat) : List Value := l.map (fun t => .int .i64 (t : Nat))
theorem intC_app (l : List Nat) (i : Nat) : intC l ++ [.int .i64 (i : Nat)] = intC (l ++ [i]) := by simp [intC]
/-- the order of lists -/
def lexN : List Nat → List Nat → Bool
 | [], [] => false
 | [], _ :: _ => true
 | _ :: _, [] => false
 | a :: x, b :: y => if a < b then true else if b < a then false else lexN x y
theorem lexN_asym : ∀ a b : List Nat, lexN a b = true → lexN b a = false
 | [], [], h => by cases h
 | [], _ :: _, _ => rfl
 | _ :: _, [], h => by cases h
 | a :: x, b :: y, h => by
  simp only [lexN] at h ⊢
  by_cases h1 : a < b
  ·rw [if_neg (by omega), if_pos h1]
  ·rw [if_neg h1] at h
   by_cases h2 : b < a
   ·rw [if_pos h2] at h; cases h
   ·rw [if_neg h2] at h
    rw [if_neg h2, if_neg h1]
    exact lexN_asym x y h
theorem lexN_trans : ∀ a b c : List Nat, lexN a b = true → lexN b c = true → lexN a c = true
 | [], [], _, h, _ => by cases h
 | [], _ :: _, [], _, h => by cases h
 | [], _ :: _, _ :: _, _, _ => rfl
 | _ :: _, [], _, h, _ => by cases h
 | _ :: _, _ :: _, [], _, h => by cases h
 | a :: x, b :: y, c :: z, h, k => by
  simp only [lexN] at h k ⊢
  by_cases h1 : a < b
  ·by_cases k1 : b < c
   ·rw [if_pos (by omega)]
   ·rw [if_neg k1] at k
    by_cases k2 : c < b
    ·rw [if_pos k2] at k; cases k
    ·rw [if_pos (by omega)]
  ·rw [if_neg h1] at h
   by_cases h2 : b < a
   ·rw [if_pos h2] at h; cases h
   ·rw [if_neg h2] at h
    by_cases k1 : b < c
    ·rw [if_pos (by omega)]
    ·rw [if_neg k1] at k
     by_cases k2 : c < b
     ·rw [if_pos k2] at k; cases k
     ·rw [if_neg k2] at k
      rw [if_neg (by omega), if_neg (by omega)]
      exact lexN_trans x y z h k
/-- a list's numbers -/
def lsF (a : List Nat) (i : Nat) : Int := ((a.getD i 0 : Nat) : Int)
theorem lexC_lex (a b : List Nat) : ∀ u k, u + k = a.length → (lexC (lsF a) (lsF b) a.length b.length u k < 0 ↔ lexN (a.drop k) (b.drop k) = true)
 | 0, k, h => by
  have e : a.drop k = [] := List.drop_eq_nil_of_le (by omega)
  rw [e]
  unfold lexC
  by_cases h1 : a.length < b.length
  ·rw [if_pos h1, List.drop_eq_getElem_cons (show k < b.length by omega)]; simp [lexN]
  ·rw [if_neg h1, List.drop_eq_nil_of_le (show b.length ≤ k by omega)]; simp [lexN]
 | u + 1, k, h => by
  have hk : k < a.length := by omega
  rw [List.drop_eq_getElem_cons hk]
  unfold lexC
  by_cases h1 : b.length ≤ k
  ·rw [if_pos h1, List.drop_eq_nil_of_le h1]; simp [lexN]
  ·have hb : k < b.length := by omega
   rw [if_neg h1, List.drop_eq_getElem_cons hb]
   have ea : lsF a k = ((a[k] : Nat) : Int) := by unfold lsF; rw [List.getD_eq_getElem?_getD, List.getElem?_eq_getElem hk]; rfl
   have eb : lsF b k = ((b[k] : Nat) : Int) := by unfold lsF; rw [List.getD_eq_getElem?_getD, List.getElem?_eq_getElem hb]; rfl
   rw [ea, eb]
   simp only [lexN]
   have hc : cmp3 ((a[k] : Nat) : Int) ((b[k] : Nat) : Int) = if a[k] < b[k] then -1 else if b[k] < a[k] then 1 else 0 := by
    unfold cmp3
    by_cases c1 : a[k] < b[k]
    ·rw [if_pos c1, if_pos (by omega)]
    ·rw [if_neg c1, if_neg (by omega)]
     by_cases c2 : b[k] < a[k]
     ·rw [if_pos c2, if_pos (by omega)]
     ·rw [if_neg c2, if_neg (by omega)]
   rw [hc]
   by_cases c1 : a[k] < b[k]
   ·rw [if_pos c1, if_pos c1]; simp
   ·rw [if_neg c1, if_neg c1]
    by_cases c2 : b[k] < a[k]
    ·rw [if_pos c2, if_pos c2]; simp
    ·rw [if_neg c2, if_neg c2, if_pos rfl]
     exact lexC_lex a b u (k + 1) (by omega)
theorem lex_sets (a b : List Nat) : lexC (lsF a) (lsF b) a.length b.length a.length 0 < 0 ↔ lexN a b = true := by
 have := lexC_lex a b a.length 0 (by omega)
 simpa using this
theorem intC_ics (L : List Nat) : intC L = ics (fun i => ((L.getD i 0 : Nat) : Int)) L.length := by
 apply List.ext_getElem?
 intro i
 by_cases h : i < L.length
 ·rw [ics_get _ _ _ h]
  simp [intC, h, ic]
 ·rw [List.getElem?_eq_none (by simp [intC]; omega), List.getElem?_eq_none (by simp [ics]; omega)]
theorem list_ints {w : World} {B : Nat} {L : List Nat} {v : Value} (h : w.ownsRow B 3 1 v L.length (intC L)) : Ints w v L.length (lsF L) := by
 rw [intC_ics] at h; exact ints_of_own h
end Go.Proofs.YtdfkhbflcacbfaaGreat

/- Cuts and codes that level a floor; exchanged sides; Euclid's cut. -/
namespace Go.Proofs.YtdfkhbflcacbfaaGreat
open Go.RowKit
/-- sides exchanged -/
def swT (t : Tr) : Tr := ⟨t.b, t.a, t.c⟩
theorem sumC_sw : ∀ L, sumC (L.map swT) = sumC L
 | [] => rfl
 | t :: l => by simp only [List.map_cons, sumC, sumC_sw l, swT]
theorem MkC.swap {L : List Tr} {W H : Nat} (h : MkC L W H) : MkC (L.map swT) H W := by
 refine ⟨by rw [List.length_map]; exact h.pos, h.h1, h.w1, h.hb, h.wb, fun t ht => ?_, ?_, ?_, ?_, ?_⟩
 ·obtain ⟨u, hu, rfl⟩ := List.mem_map.1 ht
  obtain ⟨h1, h2, h3, h4, h5⟩ := h.rg u hu
  exact ⟨h2, h1, h3, h5, h4⟩
 ·rw [List.pairwise_map]
  refine h.ap.imp (fun e => ?_)
  unfold ApT at *
  simp only [swT]
  omega
 ·rw [sumC_sw, h.ar, Int.mul_comm]
 ·obtain ⟨t, ht, e⟩ := h.mh
  exact ⟨swT t, List.mem_map_of_mem ht, e⟩
 ·obtain ⟨t, ht, e⟩ := h.mw
  exact ⟨swT t, List.mem_map_of_mem ht, e⟩
end Go.Proofs.YtdfkhbflcacbfaaGreat

/- two rows gathered side by side by append, in regions that draw. -/
namespace Go.Proofs.YtdfkhbflcacbfaaGreat
open Go.RowKit
/-- append at a step of a region that draws, and where the row then lies -/
theorem step_append_own_at {P : Program} {w : World} {ops : Array Oper} {o : Oper} {a : Act} {K : Act → World → Prop} {Q : Exit → Act → World → Prop} {E : Prop} (hgd : o.guard = none) (s x : Operand) (t : TypeId)
  (ho : o.op = .call { callee := .builtin .append, args := #[s, x], argTypes := #[t, t] })
  (base : Nat) (e : TypeId) (i : TypeInfo) (z : Value) (size bytes : Nat) (ht : P.underlying t = some (.slice e)) (hi : P.info? e = some i) (hz : i.zero = some z)
  (hsize : i.size = size) (hby : i.bytes = bytes) (hzs : z.cells.size = size) (hsz : 0 < size)
  (v : Value) (n : Nat) (xs : List Value) (hs : a.eval s = v) (hown : w.ownsRow base e size v n xs)
  (ad : Addr) (m c : Nat) (news : List Value) (hx : a.eval x = .slice (some ad) m c) (hl : news.length = m * size) (hnews : ∀ j u, news[j]? = some u → w.cell? (ad.add j) = some u) (h1 : ∀ u ∈ news, u.oneCell' = true)
  (h63 : n + m ≤ maxLen) (hbytes : (n + m) * bytes ≤ 140737488355328) (hbase : base ≤ w.heap.size)
  (h : ∀ v' w', w'.ownsRow base e size v' (n + m) (xs ++ news) → w.grownBy w' v.ownBlock → (v'.ownBlock = v.ownBlock ∨ v'.ownBlock = some w.heap.size) → K (a.put o.dst v') w') :
  if Region.wanted o (yielded ops a.tmps) = true then Oper.wp P o a w K Q else E := by
 have hw : Region.wanted o (yielded ops a.tmps) = true := by simp [Region.wanted, hgd]
 rw [if_pos hw]
 obtain ⟨v', w', hr, h2, h3, h4, h5⟩ := run_append_own_at (P := P) w base t o.type e i z size bytes ht hi hz hsize hby hzs hsz v n xs hown ad m c news hl hnews h1 h63 hbytes hbase
 unfold Oper.wp execOp
 simp only [ho, resolve, invoke, builtin, Sem.run_bind, Sem.run_pure, Result.andThen_ok, List.map_toArray, List.map_cons, List.map_nil, hs, hx, hr]
 exact h v' w' h2 h3 h5
end Go.Proofs.YtdfkhbflcacbfaaGreat

/- turned of the laws of hide: sides exchanged. (Printed by gen_turn.py.) -/
namespace Go.Proofs.YtdfkhbflcacbfaaGreat
open Go.RowKit
attribute [local go_sem ↓] Go.wp_at_zero Go.wp_at_succ
set_option maxHeartbeats 4000000 in
set_option maxRecDepth 100000 in
theorem turned_mk {B : Nat} (v : Value) (L : List Tr) (w : World) (hv : OwS B w v L) (h0 : 0 < L.length) (hn : L.length ≤ 24) :
  Calls Tryz.prog 5 #[v] w fun e w' => ∃ va vk, e = .returned (.slice va L.length vk) ∧ OwS w.heap.size w' (.slice va L.length vk) (L.map swT) ∧ Below w.heap.size w w' := by
 obtain ⟨i0, hinf, hz0, hz1, hz2⟩ := info_parts infoSq
 obtain ⟨go, co, hvo, _, hgo2, _, TR0⟩ := hv.ex
 subst hvo
 have R0 : Hid ((w.alloc (.cells #[] 52)).ownsRow w.heap.size 52 3 (.slice (some ⟨w.heap.size, 0, none⟩) 0 0) 0 (trL ((L.take 0).map swT))) := Lib.hid (World.ownsRow_made w #[] 0 (Nat.le_refl _) (by unfold maxLen; omega) rfl)
 have K0 := Lib.hid ((Below.refl w.heap.size w).alloc (Nat.le_refl _) (.cells #[] 52))
 have TRH := Lib.hid (TR0.below ((Below.refl w.heap.size w).alloc (Nat.le_refl _) (.cells #[] 52)) hgo2)
 have HG0 : Hid (go < (w.alloc (.cells #[] 52)).heap.size) := Lib.hid (by simp; omega)
 have NE0 : Hid (some go ≠ (Value.slice (some ⟨w.heap.size, 0, none⟩) 0 0).ownBlock) := Lib.hid (fun e => by
  have : go = w.heap.size := Option.some.inj e
  omega)
 obtain ⟨n, hN⟩ : ∃ n, n = L.length := ⟨_, rfl⟩
 rw [← hN] at hn h0 ⊢
 have HN := Lib.hid hN
 clear hv hN TR0 hgo2
 go_enter Tryz.func5, Tryz.ntmps5
 go_wp2
 go_loopw [3, 4] (fun v3 v5 wr => ∃ (k : Nat) (va : Option Addr) (vk : Nat), k ≤ n ∧ v5 = .int .i64 (k : Nat) ∧ v3 = .slice va k vk ∧ Hid (wr.ownsRow w.heap.size 52 3 (.slice va k vk) k (trL ((L.take k).map swT))) ∧ Hid (some go ≠ (Value.slice va k vk).ownBlock) ∧ Hid (TrR wr go 0 L) ∧ Hid (go < wr.heap.size) ∧ Hid (Below w.heap.size w wr)) (fun _ v5 _ => n - (intOf v5).toNat)
 case atStart => exact ⟨0, _, _, by omega, rfl, rfl, R0, NE0, TRH, HG0, K0⟩
 case round =>
  clear R0 NE0 TRH HG0 K0
  obtain ⟨k, va, vk, hk, rfl, rfl, OW, NE, TR, HG, KB⟩ := hrel
  by_cases h : k < n
  ·have e1 : decide ((k : Int) < (n : Int)) = true := by simpa using h
   have e1n : decide (k < n) = true := by simpa using h
   have hk2 : k < L.length := by have := HN.out; omega
   have ixk : ∀ X, (Instr.indexAt 23 (.slice (some ⟨go, 0, none⟩) n co) (.int .i64 (k : Int))).run Tryz.prog X = .ok (.pointer (some ⟨go, k * 3, none⟩)) X := fun X => by
    have := ixSqo go 0 n co k h X
    rw [Nat.zero_add] at this
    exact this
   have x0 := TR.out.c0 k hk2
   have x1 := TR.out.c1 k hk2
   have x2 := TR.out.c2 k hk2
   rw [Nat.zero_add] at x0 x1 x2
   obtain ⟨t, ht⟩ : ∃ t, t = L.getD k default := ⟨_, rfl⟩
   rw [← ht] at x0 x1 x2
   have HQ : Hid (trL ((L.take k).map swT) ++ trC ⟨t.b, t.a, t.c⟩ = trL ((L.take (k + 1)).map swT)) := Lib.hid (by
    rw [List.take_add_one, List.map_append, trL_app, ht]
    simp [hk2, trL, swT])
   have HSZ := Lib.hid KB.out.size
   have HT := Lib.hid ht
   have HK2 := Lib.hid hk2
   clear ht hk2 x0 x1 x2
   go_upto_region 5 with (fail)
   obtain ⟨wO, hwO⟩ : ∃ x : World, x = wr.drew := ⟨_, rfl⟩
   have HWO := Lib.hid hwO
   have VD := Lib.hid (show Below wr.heap.size wr wO by rw [hwO]; exact (Below.refl _ _).drew)
   clear hwO
   have keepR : Hid (∀ w', Below wO.heap.size wO w' → w'.cell? ⟨go, k * 3, none⟩ = some (.int .i64 t.a) ∧ w'.cell? ⟨go, k * 3 + 1, none⟩ = some (.int .i64 t.b) ∧ w'.cell? ⟨go, k * 3 + 2, none⟩ = some (.int .i64 t.c)) := Lib.hid (fun w' hb => by
    have h9 := TR.out.below (VD.out.trans (hb.mono VD.out.size)) HG.out
    have y0 := h9.c0 k HK2.out
    have y1 := h9.c1 k HK2.out
    have y2 := h9.c2 k HK2.out
    rw [Nat.zero_add] at y0 y1 y2
    rw [← HT.out] at y0 y1 y2
    exact ⟨y0, y1, y2⟩)
   have VL := Lib.hid (Below.refl wO.heap.size wO)
   have OWN := Lib.hid (own_kept OW.out VD.out)
   have TRO := Lib.hid (TR.out.below VD.out HG.out)
   have HGO := Lib.hid (Nat.lt_of_lt_of_le HG.out VD.out.size)
   have KO := Lib.hid (KB.out.trans (VD.out.mono KB.out.size))
   refine wp_region_held_drew (S := fun w' => w'.cell? ⟨go, k * 3, none⟩ = some (.int .i64 t.a) ∧ w'.cell? ⟨go, k * 3 + 1, none⟩ = some (.int .i64 t.b) ∧ w'.cell? ⟨go, k * 3 + 2, none⟩ = some (.int .i64 t.c)) (by kernel_rfl) (by rw [← HWO.out]; exact keepR.out _ VL.out) (fun hHeld => ?_)
   rw [← HWO.out] at hHeld ⊢
   refine wpAnyH_take (i := 0) (v := ?_) rfl (by kernel_rfl) (by kernel_rfl) (by kernel_rfl) (fun _ _ _ h => h) (Or.inl ⟨by kernel_rfl, ?_⟩) (by assumption) ?_
   rotate_left
   ·(intro w0 hSw; (try dsimp only at hSw); go_simp; all_goals (with_reducible rfl))
   simp only [Act.put, List.setIfInBounds_toArray, List.set_cons_zero, List.set_cons_succ]
   refine wpAnyH_take (i := 1) (v := ?_) rfl (by kernel_rfl) (by kernel_rfl) (by kernel_rfl) (fun _ _ _ h => h) (Or.inl ⟨by kernel_rfl, ?_⟩) (by assumption) ?_
   rotate_left
   ·(intro w0 hSw; (try dsimp only at hSw); go_simp; all_goals (with_reducible rfl))
   simp only [Act.put, List.setIfInBounds_toArray, List.set_cons_zero, List.set_cons_succ]
   refine wpAnyH_take (i := 2) (v := ?_) rfl (by kernel_rfl) (by kernel_rfl) (by kernel_rfl) (fun _ _ _ h => h) (Or.inl ⟨by kernel_rfl, ?_⟩) (by assumption) ?_
   rotate_left
   ·(intro w0 hSw; (try dsimp only at hSw); go_simp; all_goals (with_reducible rfl))
   simp only [Act.put, List.setIfInBounds_toArray, List.set_cons_zero, List.set_cons_succ]
   refine wpAnyH_take (i := 3) (v := ?_) rfl (by kernel_rfl) (by kernel_rfl) (by kernel_rfl) (fun _ _ _ h => h) (Or.inl ⟨by kernel_rfl, ?_⟩) (by assumption) ?_
   rotate_left
   ·(intro w0 hSw; (try dsimp only at hSw); go_simp; all_goals (with_reducible rfl))
   simp only [Act.put, List.setIfInBounds_toArray, List.set_cons_zero, List.set_cons_succ]
   refine wpAnyH_take (i := 4) (v := ?_) rfl (by kernel_rfl) (by kernel_rfl) (by kernel_rfl) (fun _ _ _ h => h) (Or.inl ⟨by kernel_rfl, ?_⟩) (by assumption) ?_
   rotate_left
   ·(intro w0 hSw; (try dsimp only at hSw); go_simp; all_goals (with_reducible rfl))
   simp only [Act.put, List.setIfInBounds_toArray, List.set_cons_zero, List.set_cons_succ]
   refine wpAnyH_take (i := 5) (v := ?_) rfl (by kernel_rfl) (by kernel_rfl) (by kernel_rfl) (fun _ _ _ h => h) (Or.inl ⟨by kernel_rfl, ?_⟩) (by assumption) ?_
   rotate_left
   ·(intro w0 hSw; (try dsimp only at hSw); go_simp; all_goals (with_reducible rfl))
   simp only [Act.put, List.setIfInBounds_toArray, List.set_cons_zero, List.set_cons_succ]
   refine wpAnyH_take (i := 6) (v := ?_) rfl (by kernel_rfl) (by kernel_rfl) (by kernel_rfl) (fun _ _ _ h => h) (Or.inl ⟨by kernel_rfl, ?_⟩) (by assumption) ?_
   rotate_left
   ·(intro w0 hSw; (try dsimp only at hSw); go_simp; all_goals (with_reducible rfl))
   simp only [Act.put, List.setIfInBounds_toArray, List.set_cons_zero, List.set_cons_succ]
   refine wpAnyH_take (i := 7) (v := ?_) rfl (by kernel_rfl) (by kernel_rfl) (by kernel_rfl) (fun _ _ _ h => h) (Or.inl ⟨by kernel_rfl, ?_⟩) (by assumption) ?_
   rotate_left
   ·(intro w0 hSw; (try dsimp only at hSw); go_simp; all_goals (with_reducible rfl))
   simp only [Act.put, List.setIfInBounds_toArray, List.set_cons_zero, List.set_cons_succ]
   refine wpAnyH_take (i := 8) (v := ?_) rfl (by kernel_rfl) (by kernel_rfl) (by kernel_rfl) (fun _ _ _ h => h) (Or.inl ⟨by kernel_rfl, ?_⟩) (by assumption) ?_
   rotate_left
   ·(intro w0 hSw; (try dsimp only at hSw); go_simp; all_goals (with_reducible rfl))
   simp only [Act.put, List.setIfInBounds_toArray, List.set_cons_zero, List.set_cons_succ]
   refine wpAnyH_take (i := 9) (v := ?_) rfl (by kernel_rfl) (by kernel_rfl) (by kernel_rfl) (fun _ _ _ h => h) (Or.inl ⟨by kernel_rfl, ?_⟩) (by assumption) ?_
   rotate_left
   ·(intro w0 hSw; (try dsimp only at hSw); go_simp; all_goals (with_reducible rfl))
   simp only [Act.put, List.setIfInBounds_toArray, List.set_cons_zero, List.set_cons_succ]
   refine wpAnyH_take (i := 10) (v := ?_) rfl (by kernel_rfl) (by kernel_rfl) (by kernel_rfl) (fun _ _ _ h => h) (Or.inl ⟨by kernel_rfl, ?_⟩) (by assumption) ?_
   rotate_left
   ·(intro w0 hSw; (try dsimp only at hSw); go_simp; all_goals (with_reducible rfl))
   simp only [Act.put, List.setIfInBounds_toArray, List.set_cons_zero, List.set_cons_succ]
   refine wpAnyH_take (i := 11) (v := ?_) rfl (by kernel_rfl) (by kernel_rfl) (by kernel_rfl) (fun _ _ _ h => h) (Or.inl ⟨by kernel_rfl, ?_⟩) (by assumption) ?_
   rotate_left
   ·(intro w0 hSw; (try dsimp only at hSw); go_simp; all_goals (with_reducible rfl))
   simp only [Act.put, List.setIfInBounds_toArray, List.set_cons_zero, List.set_cons_succ]
   refine wpAnyH_take (i := 12) (v := ?_) rfl (by kernel_rfl) (by kernel_rfl) (by kernel_rfl) (fun _ _ _ h => h) (Or.inl ⟨by kernel_rfl, ?_⟩) (by assumption) ?_
   rotate_left
   ·(intro w0 hSw; (try dsimp only at hSw); go_simp; all_goals (with_reducible rfl))
   simp only [Act.put, List.setIfInBounds_toArray, List.set_cons_zero, List.set_cons_succ]
   refine wpAnyH_take (i := 13) (v := ?_) rfl (by kernel_rfl) (by kernel_rfl) (by kernel_rfl) (fun _ _ _ h => h) (Or.inl ⟨by kernel_rfl, ?_⟩) (by assumption) ?_
   rotate_left
   ·(intro w0 hSw; (try dsimp only at hSw); go_simp; all_goals (with_reducible rfl))
   simp only [Act.put, List.setIfInBounds_toArray, List.set_cons_zero, List.set_cons_succ]
   refine wpAnyH_take (i := 14) (v := ?_) rfl (by kernel_rfl) (by kernel_rfl) (by kernel_rfl) (fun _ _ _ h => h) (Or.inl ⟨by kernel_rfl, ?_⟩) (by assumption) ?_
   rotate_left
   ·(intro w0 hSw; (try dsimp only at hSw); go_simp; all_goals (with_reducible rfl))
   simp only [Act.put, List.setIfInBounds_toArray, List.set_cons_zero, List.set_cons_succ]
   refine wpAnyH_take (i := 15) (v := ?_) rfl (by kernel_rfl) (by kernel_rfl) (by kernel_rfl) (fun _ _ _ h => h) (Or.inl ⟨by kernel_rfl, ?_⟩) (by assumption) ?_
   rotate_left
   ·(intro w0 hSw; (try dsimp only at hSw); go_simp; all_goals (with_reducible rfl))
   simp only [Act.put, List.setIfInBounds_toArray, List.set_cons_zero, List.set_cons_succ]
   refine wpAnyH_take (i := 16) (v := ?_) rfl (by kernel_rfl) (by kernel_rfl) (by kernel_rfl) (fun _ _ _ h => h) (Or.inl ⟨by kernel_rfl, ?_⟩) (by assumption) ?_
   rotate_left
   ·(intro w0 hSw; (try dsimp only at hSw); go_simp; all_goals (with_reducible rfl))
   simp only [Act.put, List.setIfInBounds_toArray, List.set_cons_zero, List.set_cons_succ]
   refine wpAnyH_ready (rs := [17]) (by kernel_rfl) (by simp) ?_
   refine AllReadyH.cons rfl (fun Kn hKn => ?_) AllReadyH.nil
   go_simp
   have BX := Lib.hid (box3_new wO (.int .i64 t.b) (.int .i64 t.a) (.int .i64 t.c) 52)
   have OWN := Lib.hid (OWN.out.alloc (.cells #[.int .i64 t.b, .int .i64 t.a, .int .i64 t.c] 52))
   have TRO := Lib.hid (TRO.out.below (boxes1 wO (.cells #[.int .i64 t.b, .int .i64 t.a, .int .i64 t.c] 52)) HGO.out)
   have HGO : Hid (go < (wO.alloc (.cells #[.int .i64 t.b, .int .i64 t.a, .int .i64 t.c] 52)).heap.size) := Lib.hid (Nat.lt_of_lt_of_le HGO.out (by simp))
   have VL := Lib.hid (VL.out.alloc VL.out.size (.cells #[.int .i64 t.b, .int .i64 t.a, .int .i64 t.c] 52))
   refine hKn.out _ _ ?_ (fun hHeld => ?_)
   ·(try dsimp only); exact keepR.out _ VL.out
   clear hKn Kn
   (try simp only [Act.put, List.setIfInBounds_toArray, List.set_cons_zero, List.set_cons_succ])
   obtain ⟨b9, hb9⟩ : ∃ b9, b9 = wO.heap.size := ⟨_, rfl⟩
   rw [← hb9] at BX ⊢
   clear hb9
   generalize hwN : wO.alloc (.cells #[.int .i64 t.b, .int .i64 t.a, .int .i64 t.c] 52) = wN at BX VL OWN TRO HGO hHeld ⊢
   clear hwN
   refine wpAnyH_ready (rs := [18]) (by kernel_rfl) (by simp) ?_
   refine AllReadyH.cons rfl (fun Kn hKn => ?_) AllReadyH.nil
   refine step_append_own_at (by rfl) _ _ _ (by rfl) w.heap.size 52 i0 _ 3 24 Tryz.underlying23 hinf hz0 hz1 hz2 rfl (by decide) (.slice va k vk) k (trL ((L.take k).map swT)) (by rfl) OWN.out ⟨b9, 0, none⟩ 1 1 (trC ⟨t.b, t.a, t.c⟩) (by rfl) (by rfl) (box3_cells BX.out) (trC_one ⟨t.b, t.a, t.c⟩) (by unfold maxLen; omega) (by omega) (by have := KO.out.size; have := VL.out.size; omega) ?_
   intro v5 w5 hown hgrow hbk
   rw [HQ.out] at hown
   have TR5 := Lib.hid (TRO.out.grown hgrow HGO.out NE.out)
   have HG5 := Lib.hid (Nat.lt_of_lt_of_le HGO.out hgrow.size)
   have NE5 : Hid (some go ≠ v5.ownBlock) := Lib.hid (fun e => by rcases hbk with q | q <;> rw [q] at e; exact NE.out e; exact absurd (Option.some.inj e) (Nat.ne_of_lt HGO.out))
   have KB5 := Lib.hid ((KO.out.trans (VL.out.mono KO.out.size)).grown hgrow (Nat.le_trans KO.out.size VL.out.size) (fun kk e => (OWN.out.lt kk e).1))
   have OW5 := Lib.hid hown
   obtain ⟨va5, vk5, rfl⟩ := own_shape hown
   clear hown hgrow hbk
   refine hKn.out _ _ ?_ (fun hHeld => ?_)
   ·(try dsimp only)
    have y0 := TR5.out.c0 k HK2.out
    have y1 := TR5.out.c1 k HK2.out
    have y2 := TR5.out.c2 k HK2.out
    rw [Nat.zero_add] at y0 y1 y2
    rw [← HT.out] at y0 y1 y2
    exact ⟨y0, y1, y2⟩
   clear hKn Kn
   (try simp only [Act.put, List.setIfInBounds_toArray, List.set_cons_zero, List.set_cons_succ])
   refine wpAnyH_take (i := 19) (v := ?_) rfl (by kernel_rfl) (by kernel_rfl) (by kernel_rfl) (fun _ _ _ h => h) (Or.inl ⟨by kernel_rfl, ?_⟩) (by assumption) ?_
   rotate_left
   ·(intro w0 hSw; (try dsimp only at hSw); go_simp; all_goals (with_reducible rfl))
   simp only [List.getElem_toArray, List.getElem_cons_succ, List.getElem_cons_zero, Act.put, List.setIfInBounds_toArray, List.set_cons_zero, List.set_cons_succ]
   refine wpAnyH_done (by kernel_rfl) ?_ _
   go_wp2
   go_roundw
   case rel => exact ⟨k + 1, va5, vk5, by omega, by go_num, rfl, OW5, NE5, TR5, HG5, KB5⟩
   case measure => simp [intOf]; omega
  ·obtain rfl : k = n := by omega
   have e1 : decide ((k : Int) < (k : Int)) = false := by simp
   go_wp2
   go_ret
   have h1 := OW.out
   rw [HN.out, List.take_length] at h1
   have hl : L.length = (L.map swT).length := by simp
   refine ⟨va, vk, rfl, ?_, KB.out⟩
   have h2 := HN.out
   subst h2
   refine ows_of ?_ (by simpa using h0)
   rw [← hl]
   exact h1
end Go.Proofs.YtdfkhbflcacbfaaGreat
