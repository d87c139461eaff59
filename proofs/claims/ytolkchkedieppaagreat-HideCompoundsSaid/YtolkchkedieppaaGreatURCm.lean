/- Compound of the reference of hide. (Printed by gen_rcm.py.) -/
import Derived.Test.YtolkchkedieppaaGreatUCmC
import Derived.Test.YtolkchkedieppaaGreatUPlainBt
import Derived.Test.YtolkchkedieppaaGreatULivH
import Derived.BigQuiet
import Derived.Lib.SliceRun
set_option linter.unusedVariables false
set_option linter.unusedSimpArgs false
namespace Go.Proofs.YtolkchkedieppaaGreat
open Go.RowKit
attribute [local go_sem ↓] Go.wp_at_zero Go.wp_at_succ
/-- the candidates among the sets below s -/
def CandS (S : List Tr) (s : Nat) (A : List Nat) : Prop := ∃ t, 1 ≤ t ∧ t < s ∧ mem t S.length = A ∧ CandR S A
theorem candS_one (S : List Tr) (A : List Nat) : ¬ CandS S 1 A := fun ⟨t, h1, h2, _⟩ => by omega
theorem candS_step {S : List Tr} {s : Nat} (hs : 1 ≤ s) (A : List Nat) : CandS S (s + 1) A ↔ CandS S s A ∨ (mem s S.length = A ∧ CandR S A) := by
 constructor
 ·rintro ⟨t, h1, h2, h3, h4⟩
  by_cases e : t = s
  ·subst e; exact .inr ⟨h3, h4⟩
  ·exact .inl ⟨t, h1, by omega, h3, h4⟩
 ·rintro (⟨t, h1, h2, h3, h4⟩ | ⟨h3, h4⟩)
  ·exact ⟨t, h1, by omega, h3, h4⟩
  ·exact ⟨s, hs, by omega, h3, h4⟩
theorem mem_all_len (n : Nat) : (mem (2 ^ n - 1) n).length = n := by
 have e : mem (2 ^ n - 1) n = List.range n := by
  unfold mem
  rw [List.filter_eq_self]
  intro i hi
  rw [List.mem_range] at hi
  simp [hi]
 rw [e, List.length_range]
theorem candS_end (S : List Tr) (A : List Nat) : CandS S (2 ^ S.length - 1) A ↔ CandR S A := by
 constructor
 ·rintro ⟨t, _, _, _, h⟩; exact h
 ·intro h
  obtain ⟨x, y, hr⟩ := h
  obtain ⟨s, hs, he⟩ := set_ex A hr.inc hr.lt
  have h0 : s ≠ 0 := fun e => by
   rw [e] at he
   have h2 := hr.two
   have h3 : mem 0 S.length = [] := List.filter_eq_nil_iff.2 (by simp)
   rw [← he, h3] at h2
   simp at h2
  have h1 : s ≠ 2 ^ S.length - 1 := fun e => by
   rw [e] at he
   have := hr.few
   rw [← he, mem_all_len] at this
   omega
  exact ⟨s, by omega, by omega, he, x, y, hr⟩
theorem RecR.corner {S : List Tr} {A : List Nat} {x y : Int} (h : RecR S x y A) : (∃ i, i ∈ A ∧ (S.getD i default).a = x) ∧ (∃ i, i ∈ A ∧ (S.getD i default).b = y) := by
 have hpos := h.cut.pos
 have r0 := h.cut.rg 0 hpos
 have w0 := wdT_ge ((prt S A).map (shT x y)) ((prt S A).map (shT x y)).length 0 hpos
 have h0 := htT_ge ((prt S A).map (shT x y)) ((prt S A).map (shT x y)).length 0 hpos
 have := r0.a0; have := r0.b0; have := r0.c0
 obtain ⟨k, hk, q⟩ := h.cut.covers (x := 0) (y := 0) (by omega) (by omega) (by omega) (by omega)
 rw [prt_len] at hk
 rw [prt_get S x y hk] at q
 have m := List.getElem_mem hk
 have a1 := h.xl _ m
 have b1 := h.yl _ m
 unfold inT at q
 simp only [shT] at q
 exact ⟨⟨_, m, by omega⟩, ⟨_, m, by omega⟩⟩
/-- the corner of a part -/
structure MinS (S : List Tr) (A : List Nat) (X Y : Int) : Prop where
 xl : ∀ i, i ∈ A → X ≤ (S.getD i default).a
 yl : ∀ i, i ∈ A → Y ≤ (S.getD i default).b
 xa : X = 1000 ∨ ∃ i, i ∈ A ∧ (S.getD i default).a = X
 ya : Y = 1000 ∨ ∃ i, i ∈ A ∧ (S.getD i default).b = Y
theorem MinS.start (S : List Tr) : MinS S [] 1000 1000 := ⟨fun i h => by simp at h, fun i h => by simp at h, .inl rfl, .inl rfl⟩
theorem MinS.push {S : List Tr} {A : List Nat} {X Y : Int} {k : Nat} (h : MinS S A X Y) : MinS S (A ++ [k]) (min X (S.getD k default).a) (min Y (S.getD k default).b) := by
 refine ⟨fun i hi => ?_, fun i hi => ?_, ?_, ?_⟩
 ·rcases List.mem_append.1 hi with hi | hi
  ·have := h.xl i hi; omega
  ·rw [List.mem_singleton] at hi; subst hi; omega
 ·rcases List.mem_append.1 hi with hi | hi
  ·have := h.yl i hi; omega
  ·rw [List.mem_singleton] at hi; subst hi; omega
 ·by_cases e : (S.getD k default).a < X
  ·exact .inr ⟨k, by simp, by omega⟩
  ·rcases h.xa with q | ⟨i, hi, q⟩
   ·exact .inl (by omega)
   ·exact .inr ⟨i, by simp [hi], by omega⟩
 ·by_cases e : (S.getD k default).b < Y
  ·exact .inr ⟨k, by simp, by omega⟩
  ·rcases h.ya with q | ⟨i, hi, q⟩
   ·exact .inl (by omega)
   ·exact .inr ⟨i, by simp [hi], by omega⟩
theorem candR_min {S : List Tr} {A : List Nat} {X Y : Int} (hrg : ∀ q, q ∈ S → RgT q) (hinc : A.Pairwise (· < ·)) (hlt : ∀ i, i ∈ A → i < S.length) (h2 : 2 ≤ A.length) (hf : A.length < S.length) (hm : MinS S A X Y) :
  CandR S A ↔ CutOK ((prt S A).map (shT X Y)) := by
 constructor
 ·rintro ⟨x, y, h⟩
  obtain ⟨⟨i, hi, ei⟩, ⟨j, hj, ej⟩⟩ := h.corner
  have a1 := hm.xl i hi
  have b1 := hm.yl j hj
  have r1 := hrg _ (getD_memT (hlt i hi))
  have r2 := hrg _ (getD_memT (hlt j hj))
  have := r1.c0; have := r1.a1; have := r2.c0; have := r2.b1
  have ex : X = x := by
   rcases hm.xa with q | ⟨k, hk, q⟩
   ·omega
   ·have := h.xl k hk; omega
  have ey : Y = y := by
   rcases hm.ya with q | ⟨k, hk, q⟩
   ·omega
   ·have := h.yl k hk; omega
  rw [ex, ey]; exact h.cut
 ·intro h
  exact ⟨X, Y, hinc, hlt, h2, hf, hm.xl, hm.yl, h⟩
theorem mem_inc (s n : Nat) : (mem s n).Pairwise (· < ·) := (List.pairwise_lt_range).sublist List.filter_sublist
theorem prt_succ (S : List Tr) (s k : Nat) : prt S (mem s (k + 1)) = if s.testBit k then prt S (mem s k) ++ [S.getD k default] else prt S (mem s k) := by
 rw [mem_succ]; split <;> simp [prt]
theorem prt_lenP (S : List Tr) (A : List Nat) : (prt S A).length = A.length := by simp [prt]
theorem run_neq_nil {P : Program} (w : World) (t e : TypeId) (a : Option Addr) (n c n' c' : Nat) (h : P.underlying t = some (.slice e)) :
  (binOp .neq t (.slice a n c) (.slice none n' c')).run P w = .ok (.bool (!a.isNone)) w := by
 simp only [binOp]
 simp [Op.equal, Op.maxDepth, Lib.run_equalIn_slice_nil w 9999 t e a n c n' c' h]
theorem mem_len_lt {s n : Nat} (h : s < 2 ^ n - 1) : (mem s n).length < n := by
 have hl := mem_len s n
 rcases Nat.lt_or_ge (mem s n).length n with q | q
 ·exact q
 ·exfalso
  have hs : (mem s n).Sublist (List.range n) := List.filter_sublist
  have e := hs.eq_of_length (by rw [List.length_range]; omega)
  have hb : ∀ i, i < n → s.testBit i = true := fun i hi => ((mem_mem s n i).1 (by rw [e]; exact List.mem_range.2 hi)).2
  have : s = 2 ^ n - 1 := Nat.eq_of_testBit_eq (fun i => by
   rw [Nat.testBit_two_pow_sub_one]
   by_cases hi : i < n
   ·rw [hb i hi]; simp [hi]
   ·rw [Nat.testBit_lt_two_pow (Nat.lt_of_lt_of_le (show s < 2 ^ n by omega) (Nat.pow_le_pow_right (by omega) (by omega)))]; simp [hi])
  omega
theorem TwM.made (w : World) : TwM w ((w.alloc (.cells #[] 3)).alloc (.cells #[] 47)) 3 47 1 3 (.slice (some ⟨w.heap.size, 0, none⟩) 0 0) (.slice (some ⟨w.heap.size + 1, 0, none⟩) 0 0) 0 0 [] [] := by
 have hs : (w.alloc (.cells #[] 3)).heap.size = w.heap.size + 1 := by simp
 have h1 : (w.alloc (.cells #[] 3)).ownsRow w.heap.size 3 1 (.slice (some ⟨w.heap.size, 0, none⟩) 0 0) 0 [] := World.ownsRow_made w #[] 0 (Nat.le_refl _) (by unfold maxLen; omega) rfl
 have h2 : ((w.alloc (.cells #[] 3)).alloc (.cells #[] 47)).ownsRow w.heap.size 47 3 (.slice (some ⟨w.heap.size + 1, 0, none⟩) 0 0) 0 [] := by
  have := World.ownsRow_made (base := w.heap.size) (e := 47) (size := 3) (w.alloc (.cells #[] 3)) #[] 0 (by simp) (by unfold maxLen; omega) rfl
  rw [hs] at this
  exact this
 exact ⟨own_kept h1 (boxes1 _ _), h2, fun g e f => by
  have e1 : w.heap.size = g := Option.some.inj e
  have e2 : w.heap.size + 1 = g := Option.some.inj f
  omega, boxes2 w _ _⟩
/-- a part, moved to its corner, is a cut iff its squares are apart and fill it -/
theorem cut_sh {P : List Tr} {x y : Int} (h1 : 0 < P.length) (h2 : P.length ≤ 24) (hr : ∀ i, i < P.length → RgT (P.getD i default)) (hx0 : 0 ≤ x) (hy0 : 0 ≤ y) (hx : ∀ i, i < P.length → x ≤ (P.getD i default).a) (hy : ∀ i, i < P.length → y ≤ (P.getD i default).b) :
  CutOK (P.map (shT x y)) ↔ (∀ i j, j < i → i < P.length → ApT (P.getD i default) (P.getD j default)) ∧ arT (P.map (shT x y)) P.length = wdT (P.map (shT x y)) P.length * htT (P.map (shT x y)) P.length := by
 have hl : (P.map (shT x y)).length = P.length := by simp
 have hg : ∀ i, i < P.length → (P.map (shT x y)).getD i default = shT x y (P.getD i default) := fun i hi => by simp [hi]
 have hap : ∀ p q : Tr, ApT (shT x y p) (shT x y q) ↔ ApT p q := fun p q => by unfold ApT; simp only [shT]; omega
 constructor
 ·intro h
  refine ⟨fun i j hj hi => ?_, by have := h.ar; rw [hl] at this; exact this⟩
  have := h.ap i j hj (by rw [hl]; exact hi)
  rw [hg i hi, hg j (by omega), hap] at this
  exact this
 ·rintro ⟨ha, hb⟩
  refine ⟨by rw [hl]; exact h1, by rw [hl]; exact h2, fun i hi => ?_, fun i j hj hi => ?_, by rw [hl]; exact hb⟩
  ·rw [hl] at hi
   rw [hg i hi]
   have r := hr i hi
   have := r.a1; have := r.b1; have := hx i hi; have := hy i hi
   exact ⟨by simp only [shT]; omega, by simp only [shT]; omega, r.c0, r.c1, by simp only [shT]; omega, by simp only [shT]; omega⟩
  ·rw [hl] at hi
   rw [hg i hi, hg j (by omega), hap]
   exact ha i j hj hi
set_option maxHeartbeats 8000000 in
set_option maxRecDepth 100000 in
theorem rcompound_mk {B : Nat} (v : Value) (L S : List Tr) (W H : Nat) (w : World) (hv : OwS B w v L) (hm : MkC L W H) (hn : L.length ≤ 10) (hp : L.Perm S) (hs : S.Pairwise (fun a b => ¬ ltS b a)) :
  Calls Tryz.prog 44 #[v] w fun e w' => ∃ A vb, BestL (CandR S) A ∧ e = .returned vb ∧ BsM w w' vb A := by
 have hOrd := order_mk v L S W H w hv hm (by omega) hp hs
 have hmS := hm.perm hp
 have hcS := hmS.cut (by rw [← hp.length_eq]; omega)
 have HRG : Hid (∀ q, q ∈ S → RgT q) := Lib.hid (fun q hq => by
  obtain ⟨j, hj, rfl⟩ := List.getElem_of_mem hq
  have := hcS.rg j hj
  simpa [hj] using this)
 have HCS := Lib.hid hcS
 obtain ⟨n, hN⟩ : ∃ n, n = S.length := ⟨_, rfl⟩
 have hn10 : n ≤ 10 := by rw [hN, ← hp.length_eq]; exact hn
 have hn1 : 1 ≤ n := by rw [hN]; exact hmS.pos
 rw [← hN] at hOrd
 have HN := Lib.hid hN
 obtain ⟨i0, hinf, hz0, hz1, hz2⟩ := info_parts infoI
 obtain ⟨i1, hinf1, hy0, hy1, hy2⟩ := info_parts infoSq
 have hnil : ∀ (W : World) (x : Option Addr) (n c : Nat), (binOp .neq 22 (.slice x n c) (.slice none 0 0)).run Tryz.prog W = .ok (.bool (!x.isNone)) W := fun W x n c => run_neq_nil W 22 3 x n c 0 0 Tryz.underlying22
 clear hv hm hn hp hs hmS hcS hN
 go_enter Tryz.func44, Tryz.ntmps44
 go_wp2_with (go_at_call 32; go_loud ((with_reducible refine hOrd.mono ?_); rintro e w1 ⟨oa, ok, rfl, ho, hb⟩; have OO := Lib.hid ho; have KW := Lib.hid hb; clear ho hb hOrd))
 obtain ⟨go, co, hvo, hgo1, hgo2, _, TR0⟩ := OO.out.ex
 injection hvo with u1 u2 u3
 subst u1; subst u3
 clear u2
 have TRO : Hid (∀ wx, Below w1.heap.size w1 wx → TrR wx go 0 S) := Lib.hid (fun wx hb => TR0.below hb hgo2)
 clear hgo1 hgo2 TR0 OO
 have hp1024 : 2 ^ n ≤ 1024 := Nat.le_trans (Nat.pow_le_pow_right (n := 2) (by omega) hn10) (by decide)
 have hp2 : 2 ≤ 2 ^ n := Nat.le_trans (by decide) (Nat.pow_le_pow_right (n := 2) (by omega) hn1)
 obtain ⟨N, hNP⟩ : ∃ N, N = 2 ^ n := ⟨_, rfl⟩
 have hw2 := wrap_pow n (Nat.le_trans hp1024 (by decide))
 rw [← hNP] at hw2 hp1024 hp2
 have HNP := Lib.hid hNP
 clear hNP
 have hw3 : IntKind.i64.wrap ((N : Int) - 1) = (N : Int) - 1 := by rw [IntKind.wrap_i64]; omega
 have BS0 : Hid (BsM w1 w1 (.slice none 0 0) []) := Lib.hid (BsM.nil (Below.refl _ _))
 have BL0 : Hid (BestL (CandS S 1) []) := Lib.hid (BestL.none _ (candS_one S))
 go_wp2
 go_loopw [4, 5, 6, 7, 8, 9, 10] (fun v4 v5 v6 v7 v8 v9 v10 wr => ∃ (s : Nat) (A : List Nat), 1 ≤ s ∧ s + 1 ≤ N ∧ v5 = .int .i64 (s : Nat) ∧ A.length ≤ 10 ∧ Hid (BsM w1 wr v4 A) ∧ Hid (BestL (CandS S s) A)) (fun _ v5 _ _ _ _ _ _ => N - (intOf v5).toNat)
 case atStart => exact ⟨1, [], by omega, by omega, rfl, by simp, BS0, BL0⟩
 case round =>
  clear BS0 BL0
  obtain ⟨s, A, hs1, hsN, rfl, hA, BS, BL⟩ := hrel
  by_cases h : s + 1 < N
  ·have e1 : decide ((s : Int) < (N : Int) - 1) = true := by simp; omega
   obtain ⟨wq, hwq⟩ : ∃ wq : World, wq = wr := ⟨_, rfl⟩
   have TW0 : Hid (TwM wq ((wr.alloc (.cells #[] 3)).alloc (.cells #[] 47)) 3 47 1 3 (.slice (some ⟨wr.heap.size, 0, none⟩) 0 0) (.slice (some ⟨wr.heap.size + 1, 0, none⟩) 0 0) (mem s 0).length (mem s 0).length (intC (mem s 0)) (trL (prt S (mem s 0)))) := Lib.hid (by rw [hwq]; exact TwM.made wr)
   have MS0 : Hid (MinS S (mem s 0) 1000 1000) := Lib.hid (MinS.start S)
   rw [← hwq] at BS
   clear hwq
   go_wp2
   (try rw [hw2])
   clear hw2 hw3
   go_loopw [6, 7, 8, 9, 10] (fun v6 v7 v8 v9 v10 wi => ∃ (k : Nat) (va pa : Option Addr) (vk pk : Nat) (X Y : Int), k ≤ n ∧ v10 = .int .i64 (k : Nat) ∧ v6 = .slice va (mem s k).length vk ∧ v7 = .slice pa (mem s k).length pk ∧ v8 = .int .i64 X ∧ v9 = .int .i64 Y ∧ Hid (MinS S (mem s k) X Y) ∧ Hid (TwM wq wi 3 47 1 3 v6 v7 (mem s k).length (mem s k).length (intC (mem s k)) (trL (prt S (mem s k))))) (fun _ _ _ _ v10 _ => n - (intOf v10).toNat)
   case atStart => exact ⟨0, _, _, _, _, _, _, by omega, rfl, rfl, rfl, rfl, rfl, MS0, TW0⟩
   case round =>
    clear MS0 TW0
    obtain ⟨k, va, pa, vk, pk, X, Y, hk, rfl, rfl, rfl, rfl, rfl, MS, TW⟩ := hrel
    have hMl := mem_len s k
    have hms := mem_succ s k
    by_cases h2 : k < n
    ·have e2 : decide ((k : Int) < (n : Int)) = true := by simpa using h2
     have e2n : decide (k < n) = true := by simpa using h2
     have hi64 : k < 64 := by omega
     have hbit := bit_of s k
     by_cases hb : s.testBit k = true
     ·rw [hb] at hbit
      rw [hb, if_pos rfl] at hms
      have hMS2 := MS.out.push (k := k)
      have hk2 : k < S.length := by have := HN.out; omega
      have OO : Hid (∀ wx, Below wq.heap.size wq wx → wx.cell? ⟨go, k * 3, none⟩ = some (.int .i64 (S.getD k default).a) ∧ wx.cell? ⟨go, k * 3 + 1, none⟩ = some (.int .i64 (S.getD k default).b) ∧ wx.cell? ⟨go, k * 3 + 2, none⟩ = some (.int .i64 (S.getD k default).c)) := Lib.hid (fun wx hb => by
       have T := TRO.out wx (BS.out.kb.trans (hb.mono BS.out.kb.size))
       have c0 := T.c0 k hk2
       have c1 := T.c1 k hk2
       have c2 := T.c2 k hk2
       rw [Nat.zero_add] at c0 c1 c2
       exact ⟨c0, c1, c2⟩)
      have ixk : ∀ X, (Instr.indexAt 23 (.slice (some ⟨go, 0, none⟩) n ok) (.int .i64 (k : Int))).run Tryz.prog X = .ok (.pointer (some ⟨go, k * 3, none⟩)) X := fun X => by
       have := ixSqo go 0 n ok k h2 X
       rw [Nat.zero_add] at this
       exact this
      have hp2s : trL (prt S (mem s k)) ++ trC (S.getD k default) = trL (prt S (mem s (k + 1))) := by
       rw [prt_succ, if_pos hb, trL_app]; simp [trL]
      obtain ⟨q, hq⟩ : ∃ q, q = S.getD k default := ⟨_, rfl⟩
      rw [← hq] at OO hMS2 hp2s
      obtain ⟨M, hM⟩ : ∃ M, M = (mem s k).length := ⟨_, rfl⟩
      have HM1 : Hid ((mem s (k + 1)).length = M + 1) := Lib.hid (by rw [hms, hM]; simp)
      have HQ1 : Hid (intC (mem s k) ++ [.int .i64 (k : Nat)] = intC (mem s (k + 1))) := Lib.hid (by rw [hms, intC_app])
      have HQ2 := Lib.hid hp2s
      obtain ⟨X2, hX2⟩ : ∃ X2, X2 = min X q.a := ⟨_, rfl⟩
      obtain ⟨Y2, hY2⟩ : ∃ Y2, Y2 = min Y q.b := ⟨_, rfl⟩
      have HMS2 : Hid (MinS S (mem s (k + 1)) X2 Y2) := Lib.hid (by rw [hms, hX2, hY2]; exact hMS2)
      have g1 : (if q.a < X then q.a else X) = X2 := by rw [hX2]; split <;> omega
      have g2 : (if q.b < Y then q.b else Y) = Y2 := by rw [hY2]; split <;> omega
      have g3 : min X q.a = X2 := hX2.symm
      have g4 : min Y q.b = Y2 := hY2.symm
      rw [← hM] at TW hMl ⊢
      clear hb hq hms hMS2 hp2s hX2 hY2 hM hk2
      go_upto_region 12 with (fail)
      obtain ⟨wO, hwO⟩ : ∃ x : World, x = wr.drew := ⟨_, rfl⟩
      have TW := Lib.hid (show TwM wq wO _ _ _ _ _ _ _ _ _ _ by rw [hwO]; exact TW.out.below (Below.refl _ _).drew)
      have HWO := Lib.hid hwO
      clear hwO
      have keepR : Hid (∀ w', Below wq.heap.size wq w' → w'.cell? ⟨go, k * 3, none⟩ = some (.int .i64 q.a) ∧ w'.cell? ⟨go, k * 3 + 1, none⟩ = some (.int .i64 q.b) ∧ w'.cell? ⟨go, k * 3 + 2, none⟩ = some (.int .i64 q.c)) := OO
      refine wp_region_held_drew (S := fun w' => w'.cell? ⟨go, k * 3, none⟩ = some (.int .i64 q.a) ∧ w'.cell? ⟨go, k * 3 + 1, none⟩ = some (.int .i64 q.b) ∧ w'.cell? ⟨go, k * 3 + 2, none⟩ = some (.int .i64 q.c)) (by kernel_rfl) (by rw [← HWO.out]; exact keepR.out _ TW.out.kb) (fun hHeld => ?_)
      rw [← HWO.out] at hHeld ⊢
      refine wpAnyH_take (i := 0) (v := ?_) rfl (by kernel_rfl) (by kernel_rfl) (by kernel_rfl) (fun _ _ _ h => h) (Or.inl ⟨by kernel_rfl, ?_⟩) (by assumption) ?_
      rotate_left
      ·(intro w0 hSw; (try dsimp only at hSw); go_simp; all_goals (with_reducible rfl))
      simp only [Act.put, List.setIfInBounds_toArray, List.set_cons_zero, List.set_cons_succ]
      refine wpAnyH_take (i := 1) (v := ?_) rfl (by kernel_rfl) (by kernel_rfl) (by kernel_rfl) (fun _ _ _ h => h) (Or.inl ⟨by kernel_rfl, ?_⟩) (by assumption) ?_
      rotate_left
      ·(intro w0 hSw; (try dsimp only at hSw); go_simp; all_goals (with_reducible rfl))
      simp only [Act.put, List.setIfInBounds_toArray, List.set_cons_zero, List.set_cons_succ]
      refine wpAnyH_take (i := 4) (v := ?_) rfl (by kernel_rfl) (by kernel_rfl) (by kernel_rfl) (fun _ _ _ h => h) (Or.inl ⟨by kernel_rfl, ?_⟩) (by assumption) ?_
      rotate_left
      ·(intro w0 hSw; (try dsimp only at hSw); go_simp; all_goals (with_reducible rfl))
      simp only [Act.put, List.setIfInBounds_toArray, List.set_cons_zero, List.set_cons_succ]
      refine wpAnyH_take (i := 5) (v := ?_) rfl (by kernel_rfl) (by kernel_rfl) (by kernel_rfl) (fun _ _ _ h => h) (Or.inl ⟨by kernel_rfl, ?_⟩) (by assumption) ?_
      rotate_left
      ·(intro w0 hSw; (try dsimp only at hSw); go_simp; all_goals (with_reducible rfl))
      simp only [Act.put, List.setIfInBounds_toArray, List.set_cons_zero, List.set_cons_succ]
      refine wpAnyH_take (i := 6) (v := ?_) rfl (by kernel_rfl) (by kernel_rfl) (by kernel_rfl) (fun _ _ _ h => h) (Or.inl ⟨by kernel_rfl, ?_⟩) (by assumption) ?_
      rotate_left
      ·(intro w0 hSw; (try dsimp only at hSw); go_simp; all_goals (with_reducible rfl))
      simp only [Act.put, List.setIfInBounds_toArray, List.set_cons_zero, List.set_cons_succ]
      refine wpAnyH_take (i := 7) (v := ?_) rfl (by kernel_rfl) (by kernel_rfl) (by kernel_rfl) (fun _ _ _ h => h) (Or.inl ⟨by kernel_rfl, ?_⟩) (by assumption) ?_
      rotate_left
      ·(intro w0 hSw; (try dsimp only at hSw); go_simp; all_goals (with_reducible rfl))
      simp only [Act.put, List.setIfInBounds_toArray, List.set_cons_zero, List.set_cons_succ]
      refine wpAnyH_take (i := 8) (v := ?_) rfl (by kernel_rfl) (by kernel_rfl) (by kernel_rfl) (fun _ _ _ h => h) (Or.inl ⟨by kernel_rfl, ?_⟩) (by assumption) ?_
      rotate_left
      ·(intro w0 hSw; (try dsimp only at hSw); go_simp; all_goals (with_reducible rfl))
      simp only [Act.put, List.setIfInBounds_toArray, List.set_cons_zero, List.set_cons_succ]
      refine wpAnyH_ready (rs := [2, 9]) (by kernel_rfl) (by simp) ?_
      refine AllReadyH.cons rfl (fun Kn hKn => ?_) (AllReadyH.cons rfl (fun Kn hKn => ?_) AllReadyH.nil)
      ·go_simp
       have B1 := Lib.hid (Bx.new1 wO (.int .i64 (k : Nat)) 3)
       have TW := Lib.hid (TW.out.below (boxes1 wO (.cells #[.int .i64 (k : Nat)] 3)))
       refine hKn.out _ _ ?_ (fun hHeld => ?_)
       ·(try dsimp only); exact keepR.out _ TW.out.kb
       clear hKn Kn
       (try simp only [Act.put, List.setIfInBounds_toArray, List.set_cons_zero, List.set_cons_succ])
       obtain ⟨b1, hb1⟩ : ∃ b1, b1 = wO.heap.size := ⟨_, rfl⟩
       rw [← hb1] at B1 ⊢
       clear hb1
       generalize wO.alloc (.cells #[.int .i64 (k : Nat)] 3) = wA at B1 TW hHeld ⊢
       refine wpAnyH_ready (rs := [3, 9]) (by kernel_rfl) (by simp) ?_
       refine AllReadyH.cons rfl (fun Kn hKn => ?_) (AllReadyH.cons rfl (fun Kn hKn => ?_) AllReadyH.nil)
       ·refine step_append_own_at (by rfl) _ _ _ (by rfl) wq.heap.size 3 i0 (.int .i64 0) 1 8 Tryz.underlying22 hinf hz0 hz1 hz2 rfl (by decide) (.slice va M vk) M (intC (mem s k)) (by rfl) TW.out.o1 ⟨b1, 0, none⟩ 1 1 [.int .i64 (k : Nat)] (by rfl) (by rfl) B1.out.c (one1 _ rfl) (by unfold maxLen; omega) (by omega) TW.out.kb.size ?_
        intro v6n wB hown hgrow hat
        rw [HQ1.out] at hown
        have TW := Lib.hid (TW.out.push1 hown hgrow hat)
        clear hown hgrow hat
        refine hKn.out _ _ ?_ (fun hHeld => ?_)
        ·(try dsimp only); exact keepR.out _ TW.out.kb
        clear hKn Kn
        (try simp only [Act.put, List.setIfInBounds_toArray, List.set_cons_zero, List.set_cons_succ])
        refine wpAnyH_ready (rs := [9]) (by kernel_rfl) (by simp) ?_
        refine AllReadyH.cons rfl (fun Kn hKn => ?_) AllReadyH.nil
        go_simp
        have B2 := Lib.hid (Bx.new3 wB q.a q.b q.c 47)
        have TW := Lib.hid (TW.out.below (boxes1 wB (.cells #[.int .i64 q.a, .int .i64 q.b, .int .i64 q.c] 47)))
        refine hKn.out _ _ ?_ (fun hHeld => ?_)
        ·(try dsimp only); exact keepR.out _ TW.out.kb
        clear hKn Kn
        (try simp only [Act.put, List.setIfInBounds_toArray, List.set_cons_zero, List.set_cons_succ])
        obtain ⟨b2, hb2⟩ : ∃ b2, b2 = wB.heap.size := ⟨_, rfl⟩
        rw [← hb2] at B2 ⊢
        clear hb2
        generalize wB.alloc (.cells #[.int .i64 q.a, .int .i64 q.b, .int .i64 q.c] 47) = wC at B2 TW hHeld ⊢
        refine wpAnyH_ready (rs := [10]) (by kernel_rfl) (by simp) ?_
        refine AllReadyH.cons rfl (fun Kn hKn => ?_) AllReadyH.nil
        refine step_append_own_at (by rfl) _ _ _ (by rfl) wq.heap.size 47 i1 _ 3 24 Tryz.underlying23 hinf1 hy0 hy1 hy2 rfl (by decide) (.slice pa M pk) M (trL (prt S (mem s k))) (by rfl) TW.out.o2 ⟨b2, 0, none⟩ 1 1 (trC q) (by rfl) (by rfl) B2.out.c (trC_one q) (by unfold maxLen; omega) (by omega) TW.out.kb.size ?_
        intro v7n wD hown hgrow hat
        rw [HQ2.out] at hown
        have TW := Lib.hid (TW.out.push2 hown hgrow hat)
        clear hown hgrow hat
        refine hKn.out _ _ ?_ (fun hHeld => ?_)
        ·(try dsimp only); exact keepR.out _ TW.out.kb
        clear hKn Kn
        (try simp only [Act.put, List.setIfInBounds_toArray, List.set_cons_zero, List.set_cons_succ])
        refine wpAnyH_take (i := 11) (v := ?_) rfl (by kernel_rfl) (by kernel_rfl) (by kernel_rfl) (fun _ _ _ h => h) (Or.inl ⟨by kernel_rfl, ?_⟩) (by assumption) ?_
        rotate_left
        ·(intro w0 hSw; (try dsimp only at hSw); go_simp; all_goals (with_reducible rfl))
        simp only [List.getElem_toArray, List.getElem_cons_succ, List.getElem_cons_zero, Act.put, List.setIfInBounds_toArray, List.set_cons_zero, List.set_cons_succ]
        refine wpAnyH_take (i := 12) (v := ?_) rfl (by kernel_rfl) (by kernel_rfl) (by kernel_rfl) (fun _ _ _ h => h) (Or.inl ⟨by kernel_rfl, ?_⟩) (by assumption) ?_
        rotate_left
        ·(intro w0 hSw; (try dsimp only at hSw); go_simp; all_goals (with_reducible rfl))
        simp only [List.getElem_toArray, List.getElem_cons_succ, List.getElem_cons_zero, Act.put, List.setIfInBounds_toArray, List.set_cons_zero, List.set_cons_succ]
        refine wpAnyH_done (by kernel_rfl) ?_ _
        obtain ⟨va5, vk5, rfl⟩ := own_shape TW.out.o1
        obtain ⟨pa5, pk5, rfl⟩ := own_shape TW.out.o2
        obtain ⟨x0, x1, x2⟩ := keepR.out _ TW.out.kb
        rw [← HM1.out] at TW
        clear hHeld
        go_upto_region 13 with (fail)
        go_quiet (fail)
        go_wp2
        go_roundw
        case rel => exact ⟨k + 1, va5, pa5, vk5, pk5, X2, Y2, by omega, by go_num, by rw [HM1.out], by rw [HM1.out], rfl, rfl, HMS2, Lib.hid (by rw [HM1.out] at TW ⊢; exact TW.out.below ((Drawn.of _ _).below _))⟩
        case measure => simp [intOf]; omega
       ·go_simp
        have B2 := Lib.hid (Bx.new3 wA q.a q.b q.c 47)
        have HNE2 : Hid (some wA.heap.size ≠ (Value.slice va M vk).ownBlock) := Lib.hid (fun e => by have := (TW.out.o1.lt _ e.symm).2; omega)
        have B1 := Lib.hid (B1.out.below (boxes1 wA (.cells #[.int .i64 q.a, .int .i64 q.b, .int .i64 q.c] 47)))
        have TW := Lib.hid (TW.out.below (boxes1 wA (.cells #[.int .i64 q.a, .int .i64 q.b, .int .i64 q.c] 47)))
        refine hKn.out _ _ ?_ (fun hHeld => ?_)
        ·(try dsimp only); exact keepR.out _ TW.out.kb
        clear hKn Kn
        (try simp only [Act.put, List.setIfInBounds_toArray, List.set_cons_zero, List.set_cons_succ])
        obtain ⟨b2, hb2⟩ : ∃ b2, b2 = wA.heap.size := ⟨_, rfl⟩
        rw [← hb2] at B2 HNE2 ⊢
        clear hb2
        generalize wA.alloc (.cells #[.int .i64 q.a, .int .i64 q.b, .int .i64 q.c] 47) = wB at B2 TW B1 hHeld ⊢
        refine wpAnyH_ready (rs := [3]) (by kernel_rfl) (by simp) ?_
        refine AllReadyH.cons rfl (fun Kn hKn => ?_) AllReadyH.nil
        refine step_append_own_at (by rfl) _ _ _ (by rfl) wq.heap.size 3 i0 (.int .i64 0) 1 8 Tryz.underlying22 hinf hz0 hz1 hz2 rfl (by decide) (.slice va M vk) M (intC (mem s k)) (by rfl) TW.out.o1 ⟨b1, 0, none⟩ 1 1 [.int .i64 (k : Nat)] (by rfl) (by rfl) B1.out.c (one1 _ rfl) (by unfold maxLen; omega) (by omega) TW.out.kb.size ?_
        intro v6n wC hown hgrow hat
        rw [HQ1.out] at hown
        have B2 := Lib.hid (B2.out.grown hgrow HNE2.out)
        have TW := Lib.hid (TW.out.push1 hown hgrow hat)
        clear hown hgrow hat
        refine hKn.out _ _ ?_ (fun hHeld => ?_)
        ·(try dsimp only); exact keepR.out _ TW.out.kb
        clear hKn Kn
        (try simp only [Act.put, List.setIfInBounds_toArray, List.set_cons_zero, List.set_cons_succ])
        refine wpAnyH_ready (rs := [10]) (by kernel_rfl) (by simp) ?_
        refine AllReadyH.cons rfl (fun Kn hKn => ?_) AllReadyH.nil
        refine step_append_own_at (by rfl) _ _ _ (by rfl) wq.heap.size 47 i1 _ 3 24 Tryz.underlying23 hinf1 hy0 hy1 hy2 rfl (by decide) (.slice pa M pk) M (trL (prt S (mem s k))) (by rfl) TW.out.o2 ⟨b2, 0, none⟩ 1 1 (trC q) (by rfl) (by rfl) B2.out.c (trC_one q) (by unfold maxLen; omega) (by omega) TW.out.kb.size ?_
        intro v7n wD hown hgrow hat
        rw [HQ2.out] at hown
        have TW := Lib.hid (TW.out.push2 hown hgrow hat)
        clear hown hgrow hat
        refine hKn.out _ _ ?_ (fun hHeld => ?_)
        ·(try dsimp only); exact keepR.out _ TW.out.kb
        clear hKn Kn
        (try simp only [Act.put, List.setIfInBounds_toArray, List.set_cons_zero, List.set_cons_succ])
        refine wpAnyH_take (i := 11) (v := ?_) rfl (by kernel_rfl) (by kernel_rfl) (by kernel_rfl) (fun _ _ _ h => h) (Or.inl ⟨by kernel_rfl, ?_⟩) (by assumption) ?_
        rotate_left
        ·(intro w0 hSw; (try dsimp only at hSw); go_simp; all_goals (with_reducible rfl))
        simp only [List.getElem_toArray, List.getElem_cons_succ, List.getElem_cons_zero, Act.put, List.setIfInBounds_toArray, List.set_cons_zero, List.set_cons_succ]
        refine wpAnyH_take (i := 12) (v := ?_) rfl (by kernel_rfl) (by kernel_rfl) (by kernel_rfl) (fun _ _ _ h => h) (Or.inl ⟨by kernel_rfl, ?_⟩) (by assumption) ?_
        rotate_left
        ·(intro w0 hSw; (try dsimp only at hSw); go_simp; all_goals (with_reducible rfl))
        simp only [List.getElem_toArray, List.getElem_cons_succ, List.getElem_cons_zero, Act.put, List.setIfInBounds_toArray, List.set_cons_zero, List.set_cons_succ]
        refine wpAnyH_done (by kernel_rfl) ?_ _
        obtain ⟨va5, vk5, rfl⟩ := own_shape TW.out.o1
        obtain ⟨pa5, pk5, rfl⟩ := own_shape TW.out.o2
        obtain ⟨x0, x1, x2⟩ := keepR.out _ TW.out.kb
        rw [← HM1.out] at TW
        clear hHeld
        go_upto_region 13 with (fail)
        go_quiet (fail)
        go_wp2
        go_roundw
        case rel => exact ⟨k + 1, va5, pa5, vk5, pk5, X2, Y2, by omega, by go_num, by rw [HM1.out], by rw [HM1.out], rfl, rfl, HMS2, Lib.hid (by rw [HM1.out] at TW ⊢; exact TW.out.below ((Drawn.of _ _).below _))⟩
        case measure => simp [intOf]; omega
      ·go_simp
       have B2 := Lib.hid (Bx.new3 wO q.a q.b q.c 47)
       have HNE2 : Hid (some wO.heap.size ≠ (Value.slice va M vk).ownBlock) := Lib.hid (fun e => by have := (TW.out.o1.lt _ e.symm).2; omega)
       have TW := Lib.hid (TW.out.below (boxes1 wO (.cells #[.int .i64 q.a, .int .i64 q.b, .int .i64 q.c] 47)))
       refine hKn.out _ _ ?_ (fun hHeld => ?_)
       ·(try dsimp only); exact keepR.out _ TW.out.kb
       clear hKn Kn
       (try simp only [Act.put, List.setIfInBounds_toArray, List.set_cons_zero, List.set_cons_succ])
       obtain ⟨b2, hb2⟩ : ∃ b2, b2 = wO.heap.size := ⟨_, rfl⟩
       rw [← hb2] at B2 HNE2 ⊢
       clear hb2
       generalize wO.alloc (.cells #[.int .i64 q.a, .int .i64 q.b, .int .i64 q.c] 47) = wA at B2 TW hHeld ⊢
       refine wpAnyH_ready (rs := [2]) (by kernel_rfl) (by simp) ?_
       refine AllReadyH.cons rfl (fun Kn hKn => ?_) AllReadyH.nil
       go_simp
       have B1 := Lib.hid (Bx.new1 wA (.int .i64 (k : Nat)) 3)
       have B2 := Lib.hid (B2.out.below (boxes1 wA (.cells #[.int .i64 (k : Nat)] 3)))
       have TW := Lib.hid (TW.out.below (boxes1 wA (.cells #[.int .i64 (k : Nat)] 3)))
       refine hKn.out _ _ ?_ (fun hHeld => ?_)
       ·(try dsimp only); exact keepR.out _ TW.out.kb
       clear hKn Kn
       (try simp only [Act.put, List.setIfInBounds_toArray, List.set_cons_zero, List.set_cons_succ])
       obtain ⟨b1, hb1⟩ : ∃ b1, b1 = wA.heap.size := ⟨_, rfl⟩
       rw [← hb1] at B1 ⊢
       clear hb1
       generalize wA.alloc (.cells #[.int .i64 (k : Nat)] 3) = wB at B1 TW B2 hHeld ⊢
       refine wpAnyH_ready (rs := [3]) (by kernel_rfl) (by simp) ?_
       refine AllReadyH.cons rfl (fun Kn hKn => ?_) AllReadyH.nil
       refine step_append_own_at (by rfl) _ _ _ (by rfl) wq.heap.size 3 i0 (.int .i64 0) 1 8 Tryz.underlying22 hinf hz0 hz1 hz2 rfl (by decide) (.slice va M vk) M (intC (mem s k)) (by rfl) TW.out.o1 ⟨b1, 0, none⟩ 1 1 [.int .i64 (k : Nat)] (by rfl) (by rfl) B1.out.c (one1 _ rfl) (by unfold maxLen; omega) (by omega) TW.out.kb.size ?_
       intro v6n wC hown hgrow hat
       rw [HQ1.out] at hown
       have B2 := Lib.hid (B2.out.grown hgrow HNE2.out)
       have TW := Lib.hid (TW.out.push1 hown hgrow hat)
       clear hown hgrow hat
       refine hKn.out _ _ ?_ (fun hHeld => ?_)
       ·(try dsimp only); exact keepR.out _ TW.out.kb
       clear hKn Kn
       (try simp only [Act.put, List.setIfInBounds_toArray, List.set_cons_zero, List.set_cons_succ])
       refine wpAnyH_ready (rs := [10]) (by kernel_rfl) (by simp) ?_
       refine AllReadyH.cons rfl (fun Kn hKn => ?_) AllReadyH.nil
       refine step_append_own_at (by rfl) _ _ _ (by rfl) wq.heap.size 47 i1 _ 3 24 Tryz.underlying23 hinf1 hy0 hy1 hy2 rfl (by decide) (.slice pa M pk) M (trL (prt S (mem s k))) (by rfl) TW.out.o2 ⟨b2, 0, none⟩ 1 1 (trC q) (by rfl) (by rfl) B2.out.c (trC_one q) (by unfold maxLen; omega) (by omega) TW.out.kb.size ?_
       intro v7n wD hown hgrow hat
       rw [HQ2.out] at hown
       have TW := Lib.hid (TW.out.push2 hown hgrow hat)
       clear hown hgrow hat
       refine hKn.out _ _ ?_ (fun hHeld => ?_)
       ·(try dsimp only); exact keepR.out _ TW.out.kb
       clear hKn Kn
       (try simp only [Act.put, List.setIfInBounds_toArray, List.set_cons_zero, List.set_cons_succ])
       refine wpAnyH_take (i := 11) (v := ?_) rfl (by kernel_rfl) (by kernel_rfl) (by kernel_rfl) (fun _ _ _ h => h) (Or.inl ⟨by kernel_rfl, ?_⟩) (by assumption) ?_
       rotate_left
       ·(intro w0 hSw; (try dsimp only at hSw); go_simp; all_goals (with_reducible rfl))
       simp only [List.getElem_toArray, List.getElem_cons_succ, List.getElem_cons_zero, Act.put, List.setIfInBounds_toArray, List.set_cons_zero, List.set_cons_succ]
       refine wpAnyH_take (i := 12) (v := ?_) rfl (by kernel_rfl) (by kernel_rfl) (by kernel_rfl) (fun _ _ _ h => h) (Or.inl ⟨by kernel_rfl, ?_⟩) (by assumption) ?_
       rotate_left
       ·(intro w0 hSw; (try dsimp only at hSw); go_simp; all_goals (with_reducible rfl))
       simp only [List.getElem_toArray, List.getElem_cons_succ, List.getElem_cons_zero, Act.put, List.setIfInBounds_toArray, List.set_cons_zero, List.set_cons_succ]
       refine wpAnyH_done (by kernel_rfl) ?_ _
       obtain ⟨va5, vk5, rfl⟩ := own_shape TW.out.o1
       obtain ⟨pa5, pk5, rfl⟩ := own_shape TW.out.o2
       obtain ⟨x0, x1, x2⟩ := keepR.out _ TW.out.kb
       rw [← HM1.out] at TW
       clear hHeld
       go_upto_region 13 with (fail)
       go_quiet (fail)
       go_wp2
       go_roundw
       case rel => exact ⟨k + 1, va5, pa5, vk5, pk5, X2, Y2, by omega, by go_num, by rw [HM1.out], by rw [HM1.out], rfl, rfl, HMS2, Lib.hid (by rw [HM1.out] at TW ⊢; exact TW.out.below ((Drawn.of _ _).below _))⟩
       case measure => simp [intOf]; omega
     ·have hb2 : s.testBit k = false := by simpa using hb
      rw [hb2] at hbit hms
      have hms2 : mem s (k + 1) = mem s k := by simpa using hms
      have HMS := Lib.hid hms2
      clear hms hms2 hb hb2
      go_wp2
      go_roundw
      case rel => exact ⟨k + 1, va, pa, vk, pk, X, Y, by omega, by go_num, by rw [HMS.out], by rw [HMS.out], rfl, rfl, by rw [HMS.out]; exact MS, by rw [HMS.out]; exact TW⟩
      case measure => simp [intOf]; omega
    ·have hkn : n = k := by omega
     subst hkn
     have e2 : decide ((n : Int) < (n : Int)) = false := by simp
     have hMn : (mem s n).length < n := mem_len_lt (by rw [← HNP.out]; omega)
     obtain ⟨Am, hAm⟩ : ∃ Am, Am = mem s n := ⟨_, rfl⟩
     rw [← hAm] at MS TW hMn hMl ⊢
     have hAi : Am.Pairwise (· < ·) := by rw [hAm]; exact mem_inc s n
     have hAl : ∀ i, i ∈ Am → i < S.length := fun i hi => by rw [hAm, mem_mem] at hi; have := HN.out; omega
     have HAM := Lib.hid hAm
     obtain ⟨M, hM⟩ : ∃ M, M = Am.length := ⟨_, rfl⟩
     rw [← hM] at TW hMn hMl ⊢
     have HM := Lib.hid hM
     have HSTEP : Hid (∀ B, CandS S (s + 1) B ↔ CandS S s B ∨ (Am = B ∧ CandR S B)) := Lib.hid (fun B => by rw [candS_step hs1 B, ← HN.out, ← HAM.out])
     have HNO : Hid (¬ CandR S Am → BestL (CandS S (s + 1)) A) := Lib.hid (fun hno => best_same BL.out (fun B => by rw [HSTEP.out B]; exact ⟨.inl, fun o => o.elim id (fun q => absurd q.2 (by rw [← q.1]; exact hno))⟩))
     have HWORSE : Hid (A ≠ [] → ¬ ltA Am A → BestL (CandS S (s + 1)) A) := Lib.hid (fun h1 h2 => BL.out.keep (fun B hB => ((HSTEP.out B).1 hB).elim .inl (fun e => .inr ⟨h1, by rw [← e.1]; exact h2⟩)) (fun B hB => (HSTEP.out B).2 (.inl hB)))
     have hPl : (prt S Am).length = M := by rw [prt_lenP, hM]
     have hPg : ∀ i, i < M → RgT ((prt S Am).getD i default) ∧ X ≤ ((prt S Am).getD i default).a ∧ Y ≤ ((prt S Am).getD i default).b := fun i hi => by
      have hi2 : i < Am.length := by rw [← hM]; exact hi
      have e : (prt S Am).getD i default = S.getD Am[i] default := by simp [prt, hi2]
      rw [e]
      have hm := List.getElem_mem hi2
      exact ⟨HRG.out _ (getD_memT (hAl _ hm)), MS.out.xl _ hm, MS.out.yl _ hm⟩
     have hXY : 0 ≤ X ∧ 0 ≤ Y := by
      constructor
      ·rcases MS.out.xa with q | ⟨i, hi, q⟩
       ·omega
       ·have := (HRG.out _ (getD_memT (hAl i hi))).a0; omega
      ·rcases MS.out.ya with q | ⟨i, hi, q⟩
       ·omega
       ·have := (HRG.out _ (getD_memT (hAl i hi))).b0; omega
     obtain ⟨r, hr⟩ : ∃ r : Bool, r = true ↔ CandR S Am := ⟨@decide (CandR S Am) (Classical.propDecidable _), by simp⟩
     have HR := Lib.hid hr
     have COV : Hid (2 ≤ M → ∀ wx, Below wr.heap.size wr wx → Calls Tryz.prog 60 #[.slice pa M pk, .int .i64 X, .int .i64 Y] wx fun e w' => e = .returned (.bool r) ∧ Below wx.heap.size wx w') := Lib.hid (fun h2M wx hb => by
      have hv : SqV wx (.slice pa M pk) (prt S Am) := by
       have := sqV_own (w := wx) (P := prt S Am) (v := .slice pa M pk) (base := wq.heap.size) (by rw [hPl]; exact own_kept TW.out.o2 hb)
       exact this
      have h3 := candR_min (X := X) (Y := Y) HRG.out hAi hAl (by rw [← hM]; exact h2M) (by rw [← hM, ← HN.out]; exact hMn) MS.out
      have h4 := cut_sh (P := prt S Am) (x := X) (y := Y) (by rw [hPl]; omega) (by rw [hPl]; omega) (fun i hi => (hPg i (by rw [← hPl]; exact hi)).1) hXY.1 hXY.2 (fun i hi => (hPg i (by rw [← hPl]; exact hi)).2.1) (fun i hi => (hPg i (by rw [← hPl]; exact hi)).2.2)
      exact rcovers_off (.slice pa M pk) (prt S Am) X Y r wx hv (by rw [hPl]; omega) (fun i hi => (hPg i (by rw [← hPl]; exact hi)).1) hXY.1 hXY.2 (fun i hi => (hPg i (by rw [← hPl]; exact hi)).2.1) (fun i hi => (hPg i (by rw [← hPl]; exact hi)).2.2) (hr.trans (h3.trans h4)))
     have HBT : Hid (r = true → (A = [] ∨ ltA Am A) → BestL (CandS S (s + 1)) Am) := Lib.hid (fun h1 h2 => BL.out.take (fun e => by
       obtain ⟨x, y, q⟩ := hr.1 h1
       have := q.two
       rw [e] at this; simp at this) h2 (fun B => by
      rw [HSTEP.out B]
      exact or_congr Iff.rfl ⟨fun e => e.1.symm, fun e => ⟨e.symm, by rw [e]; exact hr.1 h1⟩⟩))
     have HNR : Hid (r = false → BestL (CandS S (s + 1)) A) := Lib.hid (fun h1 => HNO.out (fun e => by rw [hr.2 e] at h1; cases h1))
     have HN2 : Hid (M < 2 → BestL (CandS S (s + 1)) A) := Lib.hid (fun h1 => HNO.out (fun ⟨x, y, q⟩ => by have := q.two; rw [← hM] at this; omega))
     have BSk := Lib.hid (BS.out.keep TW.out.kb)
     have HRow : Hid (wr.ownsRow wq.heap.size 3 1 (.slice va M vk) Am.length (intC Am)) := Lib.hid (by rw [← hM]; exact TW.out.o1)
     have KWQ := Lib.hid BS.out.kb.size
     have hM10 : M ≤ 10 := by omega
     clear hMl hMn hAi hAl hPl hPg hXY hr hAm hM hms
     go_upto_region 14 with (fail)
     go_cut [92] from 59 to 92 (fun v92 wx => ∃ t : Bool, v92 = .bool t ∧ Hid (t = true → BestL (CandS S (s + 1)) A) ∧ Hid (t = false → 2 ≤ M ∧ BestL (CandS S (s + 1)) Am) ∧ Hid (Below wr.heap.size wr wx))
     case first =>
      have KV := Lib.hid (Below.refl wr.heap.size wr)
      by_cases m1 : M < 2
      ·have d1 : decide ((M : Int) < 2) = true := by simp; omega
       have d1n : decide (M < 2) = true := by simpa using m1
       have HB := Lib.hid (HN2.out m1)
       clear m1
       go_wp2
       go_meet
       case rel => exact ⟨true, rfl, Lib.hid (fun _ => HB.out), Lib.hid (fun e => Bool.noConfusion e), KV⟩
      ·have d1 : decide ((M : Int) < 2) = false := by simp; omega
       have d1n : decide (M < 2) = false := by simpa using m1
       have h2M : 2 ≤ M := by omega
       clear m1
       rcases BSk.out.sh with ⟨hAe, rfl⟩ | ⟨hne, g, c, rfl⟩
       ·have HAE := Lib.hid hAe
        clear hAe
        rcases r with _ | _
        ·have HBX := Lib.hid (HNR.out rfl)
         go_wp2_with (first | (go_at_call 60; go_loud ((with_reducible refine (COV.out h2M _ KV.out).mono ?_); rintro e wy ⟨rfl, hb⟩; have KV := Lib.hid (KV.out.trans (hb.mono KV.out.size)); clear hb)))
         go_meet
         case rel => exact ⟨true, rfl, Lib.hid (fun _ => HBX.out), Lib.hid (fun e => Bool.noConfusion e), KV⟩
        ·have HBX := Lib.hid (HBT.out rfl (.inl HAE.out))
         go_wp2_with (first | (go_at_call 60; go_loud ((with_reducible refine (COV.out h2M _ KV.out).mono ?_); rintro e wy ⟨rfl, hb⟩; have KV := Lib.hid (KV.out.trans (hb.mono KV.out.size)); clear hb)))
         go_meet
         case rel => exact ⟨false, rfl, Lib.hid (fun e => Bool.noConfusion e), Lib.hid (fun _ => ⟨h2M, HBX.out⟩), KV⟩
       ·have HAN := Lib.hid hne
        have hIA : Ints wr (.slice (some ⟨g, 0, none⟩) A.length c) A.length (lsF A) := list_ints BSk.out.own
        have hI2 : Ints wr (.slice va M vk) Am.length (lsF Am) := by have := HRow.out; rw [HM.out] at this ⊢; exact list_ints this
        rw [← HM.out] at hI2
        have hbef := before_any (.slice va M vk) (.slice (some ⟨g, 0, none⟩) A.length c) M A.length (lsF Am) (lsF A) wr hI2 hIA (by omega) (by omega)
        have hrl : lexC (lsF Am) (lsF A) M A.length M 0 < 0 ↔ lexN Am A = true := by rw [HM.out]; exact lex_sets Am A
        obtain ⟨z, hz⟩ : ∃ z, z = lexC (lsF Am) (lsF A) M A.length M 0 := ⟨_, rfl⟩
        rw [← hz] at hbef hrl
        have HRL := Lib.hid hrl
        clear hIA hI2 hz hrl hne
        by_cases l1 : A.length < M
        ·have k1 : decide ((A.length : Int) < (M : Int)) = true := by simpa using l1
         have k1n : decide (A.length < M) = true := by simpa using l1
         have k1g : decide ((M : Int) > (A.length : Int)) = true := by simpa using l1
         have HB := Lib.hid (HWORSE.out HAN.out (fun h => by
          rcases h with h | h
          ·rw [← HM.out] at h; omega
          ·rw [← HM.out] at h; omega))
         clear l1 hbef
         go_wp2
         go_meet
         case rel => exact ⟨true, rfl, Lib.hid (fun _ => HB.out), Lib.hid (fun e => Bool.noConfusion e), KV⟩
        ·have k1 : decide ((A.length : Int) < (M : Int)) = false := by simpa using l1
         have k1n : decide (A.length < M) = false := by simpa using l1
         have k1g : decide ((M : Int) > (A.length : Int)) = false := by simpa using l1
         by_cases l2 : M = A.length
         ·have k2 : ((M : Int) == (A.length : Int)) = true := by rw [beq_iff_eq]; omega
          have k2n : (M == A.length) = true := by rw [beq_iff_eq]; exact l2
          have k2d : decide (M = A.length) = true := decide_eq_true l2
          by_cases l3 : z < 0
          ·have k3 : decide (z < 0) = true := by simpa using l3
           have HLT : Hid (ltA Am A) := Lib.hid (.inr ⟨by rw [← HM.out]; exact l2, HRL.out.1 l3⟩)
           clear l1 l2 l3
           rcases r with _ | _
           ·have HBX := Lib.hid (HNR.out rfl)
            go_wp2_with (first | (go_at_call 93; go_loud ((with_reducible refine hbef.mono ?_); rintro e wx ⟨rfl, hd⟩; have KV := Lib.hid (hd.below wr.heap.size); clear hd)) | (go_at_call 60; go_loud ((with_reducible refine (COV.out h2M _ KV.out).mono ?_); rintro e wy ⟨rfl, hb⟩; have KV := Lib.hid (KV.out.trans (hb.mono KV.out.size)); clear hb)))
            go_meet
            case rel => exact ⟨true, rfl, Lib.hid (fun _ => HBX.out), Lib.hid (fun e => Bool.noConfusion e), KV⟩
           ·have HBX := Lib.hid (HBT.out rfl (.inr HLT.out))
            go_wp2_with (first | (go_at_call 93; go_loud ((with_reducible refine hbef.mono ?_); rintro e wx ⟨rfl, hd⟩; have KV := Lib.hid (hd.below wr.heap.size); clear hd)) | (go_at_call 60; go_loud ((with_reducible refine (COV.out h2M _ KV.out).mono ?_); rintro e wy ⟨rfl, hb⟩; have KV := Lib.hid (KV.out.trans (hb.mono KV.out.size)); clear hb)))
            go_meet
            case rel => exact ⟨false, rfl, Lib.hid (fun e => Bool.noConfusion e), Lib.hid (fun _ => ⟨h2M, HBX.out⟩), KV⟩
          ·have k3 : decide (z < 0) = false := by simpa using l3
           have HB := Lib.hid (HWORSE.out HAN.out (fun h => by
            rcases h with h | h
            ·rw [← HM.out] at h; omega
            ·exact l3 (HRL.out.2 h.2)))
           clear l1 l2 l3
           go_wp2_with (first | (go_at_call 93; go_loud ((with_reducible refine hbef.mono ?_); rintro e wx ⟨rfl, hd⟩; have KV := Lib.hid (hd.below wr.heap.size); clear hd)))
           go_meet
           case rel => exact ⟨true, rfl, Lib.hid (fun _ => HB.out), Lib.hid (fun e => Bool.noConfusion e), KV⟩
         ·have k2 : ((M : Int) == (A.length : Int)) = false := by rw [beq_eq_false_iff_ne]; omega
          have k2n : (M == A.length) = false := by rw [beq_eq_false_iff_ne]; exact l2
          have k2d : decide (M = A.length) = false := decide_eq_false l2
          have HLT : Hid (ltA Am A) := Lib.hid (.inl (by rw [← HM.out]; omega))
          clear l1 l2 hbef
          rcases r with _ | _
          ·have HBX := Lib.hid (HNR.out rfl)
           go_wp2_with (first | (go_at_call 60; go_loud ((with_reducible refine (COV.out h2M _ KV.out).mono ?_); rintro e wy ⟨rfl, hb⟩; have KV := Lib.hid (KV.out.trans (hb.mono KV.out.size)); clear hb)))
           go_meet
           case rel => exact ⟨true, rfl, Lib.hid (fun _ => HBX.out), Lib.hid (fun e => Bool.noConfusion e), KV⟩
          ·have HBX := Lib.hid (HBT.out rfl (.inr HLT.out))
           go_wp2_with (first | (go_at_call 60; go_loud ((with_reducible refine (COV.out h2M _ KV.out).mono ?_); rintro e wy ⟨rfl, hb⟩; have KV := Lib.hid (KV.out.trans (hb.mono KV.out.size)); clear hb)))
           go_meet
           case rel => exact ⟨false, rfl, Lib.hid (fun e => Bool.noConfusion e), Lib.hid (fun _ => ⟨h2M, HBX.out⟩), KV⟩
     case rest =>
      obtain ⟨t, rfl, H1, H2, VB⟩ := hcut
      rcases t with _ | _
      ·have HB := Lib.hid (H2.out rfl).2
       have h2M := (H2.out rfl).1
       have BT : Hid (BsM w1 wc (.slice va M vk) Am) := Lib.hid (by
        have := BsM.take (w := w1) (wx := wc) (va := va) (vk := vk) (base := wq.heap.size) (A := Am) (by rw [← HM.out]; have := own_kept HRow.out VB.out; rw [← HM.out] at this; exact this) (by rw [← HM.out]; omega) KWQ.out (BSk.out.keep VB.out).kb
        rw [← HM.out] at this
        exact this)
       have hAm10 : Am.length ≤ 10 := by rw [← HM.out]; exact hM10
       clear H1 H2
       go_wp2
       go_roundw
       case rel => exact ⟨s + 1, Am, by omega, by omega, by go_num, hAm10, BT, HB⟩
       case measure => simp [intOf]; omega
      ·have HB := Lib.hid (H1.out rfl)
       have BT := Lib.hid (BSk.out.keep VB.out)
       clear H1 H2
       go_wp2
       go_roundw
       case rel => exact ⟨s + 1, A, by omega, by omega, by go_num, hA, BT, HB⟩
       case measure => simp [intOf]; omega
  ·obtain rfl : N = s + 1 := by omega
   have e1 : decide ((s : Int) < ((s + 1 : Nat) : Int) - 1) = false := by simp
   have e1b : decide ((s : Int) < (s : Int) + 1 - 1) = false := by simp
   have BE := Lib.hid (best_same BL.out (D := CandR S) (fun B => by have e : s = 2 ^ S.length - 1 := by { rw [← HN.out, ← HNP.out]; omega }; rw [e]; exact candS_end S B))
   go_wp2
   go_ret
   exact ⟨A, _, BE.out, rfl, BS.out.down KW.out⟩
end Go.Proofs.YtolkchkedieppaaGreat
