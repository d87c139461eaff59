/- Network of the reference of hide. -/
import Derived.Test.YtolkchkedieppaaGreatVRLn
import Derived.Test.YtolkchkedieppaaGreatVRdC
import Derived.Test.YtolkchkedieppaaGreatVRcv
set_option linter.unusedVariables false
set_option linter.unusedSimpArgs false
namespace Go.Proofs.YtolkchkedieppaaGreat
open Go.RowKit
attribute [local go_sem ↓] Go.wp_at_zero Go.wp_at_succ
theorem edge_top {J S : List Tr} (h : CanL J (edgeC S)) {q : Tr} (hq : q ∈ S) (hc : 0 < q.c) :
  ∃ k, k < J.length ∧ onF J q.a q.b = (k : Int) ∧ ∀ i, i < J.length → (((J.getD i default).b ≤ q.a ∧ q.a + q.c ≤ (J.getD i default).c ∧ (J.getD i default).a = q.b) ↔ i = k) :=
 h.edge hc (fun u h1 h2 => ⟨q, hq, .inl rfl, h1, h2⟩)
theorem edge_low {J S : List Tr} (h : CanL J (edgeC S)) {q : Tr} (hq : q ∈ S) (hc : 0 < q.c) :
  ∃ k, k < J.length ∧ onF J q.a (q.b + q.c) = (k : Int) ∧ ∀ i, i < J.length → (((J.getD i default).b ≤ q.a ∧ q.a + q.c ≤ (J.getD i default).c ∧ (J.getD i default).a = q.b + q.c) ↔ i = k) :=
 h.edge hc (fun u h1 h2 => ⟨q, hq, .inr rfl, h1, h2⟩)
/-- the number of a line, once it has been met -/
def upK (a k : Nat) : Int := if a < k then (a : Int) else 0
theorem upK_hit (a : Nat) : upK a (a + 1) = (a : Int) := by simp [upK]
theorem upK_miss {a k : Nat} (h : k ≠ a) : upK a (k + 1) = upK a k := by
 unfold upK
 by_cases e : a < k
 ·rw [if_pos e, if_pos (by omega)]
 ·rw [if_neg e, if_neg (by omega)]
theorem upK_done {a n : Nat} (h : a < n) : upK a n = (a : Int) := by simp [upK, h]
theorem Own2.set0 {w : World} {b : Nat} {x y : Value} (h : Own2 w b x y) (u : Value) : Own2 (w.setCell ⟨b, 0, none⟩ u) b u y :=
 ⟨self_set h.c0, off_set (by decide) h.c1, fun o => by rw [World.frozen?_setCell]; exact h.f o, by simp only [World.setCell, Array.size_modify]; exact h.lt⟩
theorem Own2.set1 {w : World} {b : Nat} {x y : Value} (h : Own2 w b x y) (u : Value) : Own2 (w.setCell ⟨b, 1, none⟩ u) b x u :=
 ⟨off_set (by decide) h.c0, self_set h.c1, fun o => by rw [World.frozen?_setCell]; exact h.f o, by simp only [World.setCell, Array.size_modify]; exact h.lt⟩
set_option maxHeartbeats 8000000 in
set_option maxRecDepth 100000 in
theorem rnetwork_mk {B : Nat} (v : Value) (L S : List Tr) (W H : Nat) (w : World) (hv : OwS B w v L) (hm : MkC L W H) (hn : L.length ≤ 24) (hp : L.Perm S) (hs : S.Pairwise (fun a b => ¬ ltS b a)) :
  Calls Tryz.prog 22 #[v] w fun e w' => ∃ J va vk, e = .returned (.tuple #[.int .i64 (J.length : Nat), .slice va S.length vk]) ∧ CanL J (edgeC L) ∧
   w'.ownsRow w.heap.size 40 2 (.slice va S.length vk) S.length (prL (netF S J S.length)) ∧ Below w.heap.size w w' := by
 obtain ⟨i0, hinf, hz0, hz1, hz2⟩ := info_parts infoPr
 have hcut := hm.cut hn
 have hLin := rlines_any v L w hv.sqV hn hcut.rg
 have HORD : Hid (∀ w1, Below w.heap.size w w1 → Calls Tryz.prog 32 #[v] w1 fun e w' => ∃ va vk, e = .returned (.slice va S.length vk) ∧ OwS w1.heap.size w' (.slice va S.length vk) S ∧ Below w1.heap.size w1 w') :=
  Lib.hid (fun w1 hb => order_mk v L S W H w1 (hv.below hb) hm hn hp hs)
 have HRG : Hid (∀ q, q ∈ S → RgT q ∧ q ∈ L) := Lib.hid (fun q hq => by
  have hqL := hp.mem_iff.2 hq
  obtain ⟨j, hj, rfl⟩ := List.getElem_of_mem hqL
  have := hcut.rg j hj
  exact ⟨by simpa [hj] using this, hqL⟩)
 have hS24 : S.length ≤ 24 := by rw [← hp.length_eq]; exact hn
 have hS1 : 0 < S.length := by rw [← hp.length_eq]; exact hm.pos
 clear hv hm hn hp hs hcut
 go_enter Tryz.func22, Tryz.ntmps22
 go_wp2_with (first
  | (go_at_call 61; go_loud ((with_reducible refine hLin.mono ?_); rintro e w1 ⟨la, lk, J, rfl, hJ48, hJ, ho, hb⟩; have HJ := Lib.hid hJ; have HLO := Lib.hid ho; have KB1 := Lib.hid hb; clear hJ ho hb))
  | (go_at_call 32; go_loud ((with_reducible refine (HORD.out _ KB1.out).mono ?_); rintro e w2 ⟨oa, ok, rfl, ho, hb⟩; have OO := Lib.hid ho; have HB2 := Lib.hid hb; clear ho hb)))
 clear hLin HORD
 obtain ⟨go, co, hvo, hgo1, hgo2, _, TR0⟩ := OO.out.ex
 injection hvo with u1 u2 u3
 subst u1; subst u3
 clear u2
 have hJp : 0 < J.length := by
  obtain ⟨hr, hL⟩ := HRG.out (S.getD 0 default) (getD_memT hS1)
  obtain ⟨k, hk, _⟩ := edge_top HJ.out hL (by have := hr.c0; omega)
  omega
 obtain ⟨gl, cl, hvl, _, _⟩ := HLO.out.form (by omega)
 injection hvl with u1 u2 u3
 subst u1; subst u3
 clear u2
 have hgl := (HLO.out.lt gl rfl).2
 have JR := Lib.hid ((trR_own HLO.out).below HB2.out hgl)
 have HGL := Lib.hid (Nat.lt_of_lt_of_le hgl HB2.out.size)
 have SR := Lib.hid TR0
 have HGO := Lib.hid hgo2
 have KB := Lib.hid (KB1.out.trans (HB2.out.mono KB1.out.size))
 have hsz2 : w2.heap.size = w2.heap.size := rfl
 obtain ⟨n, hN⟩ : ∃ n, n = S.length := ⟨_, rfl⟩
 obtain ⟨N, hNJ⟩ : ∃ N, N = J.length := ⟨_, rfl⟩
 rw [← hN] at hS24 hS1 ⊢
 rw [← hNJ] at hJ48 hJp ⊢
 have HN := Lib.hid hN
 have HNJ := Lib.hid hNJ
 clear hN hNJ hgo1 hgo2 hgl TR0 OO HLO HB2 KB1 hsz2
 have OW0 : Hid ((w2.alloc (.cells #[] 40)).ownsRow w2.heap.size 40 2 (.slice (some ⟨w2.heap.size, 0, none⟩) 0 0) 0 (prL (netF S J 0))) := Lib.hid (World.ownsRow_made w2 #[] 0 (Nat.le_refl _) (by unfold maxLen; omega) rfl)
 have K20 : Hid (Below w2.heap.size w2 (w2.alloc (.cells #[] 40))) := Lib.hid (boxes1 _ _)
 go_loopw [6, 7, 8, 9] (fun v6 v7 v8 v9 wr => ∃ (i : Nat) (va : Option Addr) (vk : Nat), i ≤ n ∧ v7 = .int .i64 (i : Nat) ∧ v6 = .slice va i vk ∧ Hid (wr.ownsRow w2.heap.size 40 2 (.slice va i vk) i (prL (netF S J i))) ∧ Hid (Below w2.heap.size w2 wr)) (fun _ v7 _ _ _ => n - (intOf v7).toNat)
 case atStart => exact ⟨0, _, _, by omega, rfl, rfl, OW0, K20⟩
 case round =>
  clear OW0 K20
  obtain ⟨i, va, vk, hi, rfl, rfl, OW, K2⟩ := hrel
  by_cases h : i < n
  ·have e1 : decide ((i : Int) < (n : Int)) = true := by simpa using h
   have e1n : decide (i < n) = true := by simpa using h
   have hi2 : i < S.length := by have := HN.out; omega
   obtain ⟨hqr, hqL⟩ := HRG.out (S.getD i default) (getD_memT hi2)
   obtain ⟨kA, hkA, hoA, hiA⟩ := edge_top HJ.out hqL (by have := hqr.c0; omega)
   obtain ⟨kB, hkB, hoB, hiB⟩ := edge_low HJ.out hqL (by have := hqr.c0; omega)
   have hnf : prL (netF S J i) ++ [.int .i64 (kA : Int), .int .i64 (kB : Int)] = prL (netF S J (i + 1)) := by
    simp only [netF]; rw [prL_app, hoA, hoB]; rfl
   have HNF := Lib.hid hnf
   have ixo : ∀ X, (Instr.indexAt 23 (.slice (some ⟨go, 0, none⟩) n ok) (.int .i64 (i : Int))).run Tryz.prog X = .ok (.pointer (some ⟨go, i * 3, none⟩)) X := fun X => by
    have := ixSqo go 0 n ok i h X
    rw [Nat.zero_add] at this
    exact this
   have q3 : ∀ wx, Below w2.heap.size w2 wx → wx.cell? ⟨go, i * 3, none⟩ = some (.int .i64 (S.getD i default).a) ∧ wx.cell? ⟨go, i * 3 + 1, none⟩ = some (.int .i64 (S.getD i default).b) ∧ wx.cell? ⟨go, i * 3 + 2, none⟩ = some (.int .i64 (S.getD i default).c) := fun wx hb => by
    have T := SR.out.below hb HGO.out
    have c0 := T.c0 i hi2
    have c1 := T.c1 i hi2
    have c2 := T.c2 i hi2
    rw [Nat.zero_add] at c0 c1 c2
    exact ⟨c0, c1, c2⟩
   obtain ⟨q, hq⟩ : ∃ q, q = S.getD i default := ⟨_, rfl⟩
   rw [← hq] at hqr hiA hiB q3
   have Q3 := Lib.hid q3
   have HIA : Hid (∀ i, i < N → (((J.getD i default).b ≤ q.a ∧ q.a + q.c ≤ (J.getD i default).c ∧ (J.getD i default).a = q.b) ↔ i = kA)) := Lib.hid (fun i hi => hiA i (by rw [← HNJ.out]; exact hi))
   have HIB : Hid (∀ i, i < N → (((J.getD i default).b ≤ q.a ∧ q.a + q.c ≤ (J.getD i default).c ∧ (J.getD i default).a = q.b + q.c) ↔ i = kB)) := Lib.hid (fun i hi => hiB i (by rw [← HNJ.out]; exact hi))
   have hkA2 : kA < N := by rw [HNJ.out]; exact hkA
   have hkB2 : kB < N := by rw [HNJ.out]; exact hkB
   have HQR := Lib.hid hqr
   have a0 := hqr.a0; have b0 := hqr.b0; have c0 := hqr.c0; have c1 := hqr.c1; have a1 := hqr.a1; have b1 := hqr.b1
   have w6 : IntKind.i64.wrap (q.a + q.c) = q.a + q.c := by rw [IntKind.wrap_i64]; omega
   have w7 : IntKind.i64.wrap (q.b + q.c) = q.b + q.c := by rw [IntKind.wrap_i64]; omega
   clear hq hqr hiA hiB q3 hkA hkB hoA hoB hnf a0 b0 c1 a1 b1 hi2 hqL
   obtain ⟨wp, hwp⟩ : ∃ wp : World, wp = wr := ⟨_, rfl⟩
   obtain ⟨pb, hpb⟩ : ∃ pb, pb = wr.heap.size := ⟨_, rfl⟩
   rw [← hwp] at OW K2
   have HWP := Lib.hid hwp
   have HPB : Hid (pb = wp.heap.size) := Lib.hid (by rw [hpb, hwp])
   have P0 : Hid (Own2 (wr.alloc (.cells #[.int .i64 0, .int .i64 0] 40)) pb (.int .i64 (upK kA 0)) (.int .i64 (upK kB 0))) := Lib.hid (own2_new wr pb hpb (.int .i64 0) (.int .i64 0) 40)
   have KP0 : Hid (Below pb wp (wr.alloc (.cells #[.int .i64 0, .int .i64 0] 40))) := Lib.hid (by rw [hpb, hwp]; exact boxes1 _ _)
   have HPR := Lib.hid hpb
   clear hpb hwp
   go_wp2
   rw [← HPR.out]
   go_loopw [9] (fun v9 wi => ∃ k : Nat, k ≤ N ∧ v9 = .int .i64 (k : Nat) ∧ Hid (Own2 wi pb (.int .i64 (upK kA k)) (.int .i64 (upK kB k))) ∧ Hid (Below pb wp wi)) (fun v9 _ => N - (intOf v9).toNat)
   case atStart => exact ⟨0, by omega, rfl, P0, KP0⟩
   case round =>
    clear P0 KP0
    obtain ⟨k, hk, rfl, PP, KP⟩ := hrel
    by_cases h2 : k < N
    ·have e2 : decide ((k : Int) < (N : Int)) = true := by simpa using h2
     have e2n : decide (k < N) = true := by simpa using h2
     have hk2 : k < J.length := by have := HNJ.out; omega
     have ixk := fun X => ixRL gl N lk k h2 X
     have TJ := (JR.out.below K2.out HGL.out).below KP.out (by rw [HPB.out]; exact Nat.lt_of_lt_of_le HGL.out K2.out.size)
     have x0 := TJ.c0 k hk2
     have x1 := TJ.c1 k hk2
     have x2 := TJ.c2 k hk2
     simp only [Nat.zero_add] at x0 x1 x2
     obtain ⟨z0, z1, z2⟩ := Q3.out wr (K2.out.trans (KP.out.mono (by rw [HPB.out]; exact K2.out.size)))
     have hA := HIA.out k h2
     have hB := HIB.out k h2
     obtain ⟨l, hl⟩ : ∃ l, l = J.getD k default := ⟨_, rfl⟩
     rw [← hl] at x0 x1 x2 hA hB
     have n1 : ¬ gl = pb := by rw [HPB.out]; have := Nat.lt_of_lt_of_le HGL.out K2.out.size; omega
     have n2 : ¬ pb = gl := fun e => n1 e.symm
     have n3 : ¬ go = pb := by rw [HPB.out]; have := Nat.lt_of_lt_of_le HGO.out K2.out.size; omega
     have n4 : ¬ pb = go := fun e => n3 e.symm
     have f0 := PP.out.f 0
     have f1 := PP.out.f 1
     have p0 := PP.out.c0
     have p1 := PP.out.c1
     clear hl TJ hk2
     by_cases d1 : l.b ≤ q.a
     ·have t1 : decide (l.b ≤ q.a) = true := by simpa using d1
      by_cases d2 : q.a + q.c ≤ l.c
      ·have t2 : decide (q.a + q.c ≤ l.c) = true := by simpa using d2
       by_cases d3 : l.a = q.b
       ·have t3 : (l.a == q.b) = true := by simpa using d3
        have t3d : decide (l.a = q.b) = true := by simpa using d3
        have t4 : (l.a == q.b + q.c) = false := by rw [beq_eq_false_iff_ne]; omega
        have t4d : decide (l.a = q.b + q.c) = false := by simp; omega
        have HKA : Hid (k = kA) := Lib.hid (hA.1 ⟨d1, d2, d3⟩)
        have HKB : Hid (k ≠ kB) := Lib.hid (fun e => by have := hB.2 e; omega)
        clear d1 d2 d3 hA hB c0
        go_wp2
        go_quiet (fail)
        go_wp2
        go_quiet (fail)
        go_wp2
        go_quiet (fail)
        go_wp2
        go_roundw
        case rel => exact ⟨k + 1, by omega, by go_num, Lib.hid (by rw [show upK kA (k + 1) = (k : Int) by rw [← HKA.out, upK_hit], upK_miss HKB.out]; exact ((PP.out.drawn (Drawn.of _ _)).set0 _).drawn (Drawn.of _ _)), Lib.hid (((KP.out.trans ((Drawn.of _ _).below _)).setCell (p := ⟨pb, 0, none⟩) (Nat.le_refl _) _).trans ((Drawn.of _ _).below _))⟩
        case measure => simp [intOf]; omega
       ·by_cases d4 : l.a = q.b + q.c
        ·have t3 : (l.a == q.b) = false := by rw [beq_eq_false_iff_ne]; exact d3
         have t3d : decide (l.a = q.b) = false := decide_eq_false d3
         have t4 : (l.a == q.b + q.c) = true := by rw [beq_iff_eq]; exact d4
         have t4d : decide (l.a = q.b + q.c) = true := decide_eq_true d4
         have HKA : Hid (k ≠ kA) := Lib.hid (fun e => d3 (hA.2 e).2.2)
         have HKB : Hid (k = kB) := Lib.hid (hB.1 ⟨d1, d2, d4⟩)
         clear d1 d2 d3 d4 hA hB c0
         go_wp2
         go_quiet (fail)
         go_wp2
         go_quiet (fail)
         go_wp2
         go_quiet (fail)
         go_wp2
         go_roundw
         case rel => exact ⟨k + 1, by omega, by go_num, Lib.hid (by rw [upK_miss HKA.out, show upK kB (k + 1) = (k : Int) by rw [← HKB.out, upK_hit]]; exact ((PP.out.drawn (Drawn.of _ _)).set1 _)), Lib.hid ((KP.out.trans ((Drawn.of _ _).below _)).setCell (p := ⟨pb, 1, none⟩) (Nat.le_refl _) _)⟩
         case measure => simp [intOf]; omega
        ·have t3 : (l.a == q.b) = false := by rw [beq_eq_false_iff_ne]; exact d3
         have t3d : decide (l.a = q.b) = false := decide_eq_false d3
         have t4 : (l.a == q.b + q.c) = false := by rw [beq_eq_false_iff_ne]; exact d4
         have t4d : decide (l.a = q.b + q.c) = false := decide_eq_false d4
         have HKA : Hid (k ≠ kA) := Lib.hid (fun e => d3 (hA.2 e).2.2)
         have HKB : Hid (k ≠ kB) := Lib.hid (fun e => d4 (hB.2 e).2.2)
         clear d1 d2 d3 d4 hA hB c0
         go_wp2
         go_quiet (fail)
         go_wp2
         go_quiet (fail)
         go_wp2
         go_quiet (fail)
         go_wp2
         go_roundw
         case rel => exact ⟨k + 1, by omega, by go_num, Lib.hid (by rw [upK_miss HKA.out, upK_miss HKB.out]; exact PP.out.below ((Drawn.of _ _).below _) PP.out.lt), Lib.hid (KP.out.trans ((Drawn.of _ _).below _))⟩
         case measure => simp [intOf]; omega
      ·have t2 : decide (q.a + q.c ≤ l.c) = false := by simpa using d2
       have HKA : Hid (k ≠ kA) := Lib.hid (fun e => d2 (hA.2 e).2.1)
       have HKB : Hid (k ≠ kB) := Lib.hid (fun e => d2 (hB.2 e).2.1)
       clear d1 d2 hA hB c0
       go_wp2
       go_quiet (fail)
       go_wp2
       go_roundw
       case rel => exact ⟨k + 1, by omega, by go_num, Lib.hid (by rw [upK_miss HKA.out, upK_miss HKB.out]; exact PP.out.below ((Drawn.of _ _).below _) PP.out.lt), Lib.hid (KP.out.trans ((Drawn.of _ _).below _))⟩
       case measure => simp [intOf]; omega
     ·have t1 : decide (l.b ≤ q.a) = false := by simpa using d1
      have HKA : Hid (k ≠ kA) := Lib.hid (fun e => d1 (hA.2 e).1)
      have HKB : Hid (k ≠ kB) := Lib.hid (fun e => d1 (hB.2 e).1)
      clear d1 hA hB c0
      go_wp2
      go_quiet (fail)
      go_wp2
      go_roundw
      case rel => exact ⟨k + 1, by omega, by go_num, Lib.hid (by rw [upK_miss HKA.out, upK_miss HKB.out]; exact PP.out.below ((Drawn.of _ _).below _) PP.out.lt), Lib.hid (KP.out.trans ((Drawn.of _ _).below _))⟩
      case measure => simp [intOf]; omega
    ·obtain rfl : k = N := by omega
     have e2 : decide ((k : Int) < (k : Int)) = false := by simp
     have PD := Lib.hid (show Own2 wr pb (.int .i64 (kA : Int)) (.int .i64 (kB : Int)) by have := PP.out; rw [upK_done hkA2, upK_done hkB2] at this; exact this)
     have p0 := PD.out.c0
     have p1 := PD.out.c1
     have OWr := Lib.hid (own_kept OW.out (by rw [← HPB.out]; exact KP.out))
     have K2r := Lib.hid (K2.out.trans (KP.out.mono (by rw [HPB.out]; exact K2.out.size)))
     have HSZ := Lib.hid K2r.out.size
     go_wp2_with (at_builtin; refine wpList_append_own _ rfl (.tmp 90) (.tmp 92) 33 rfl w2.heap.size 40 i0 _ 2 16 Tryz.underlying33 hinf hz0 hz1 hz2 rfl (by decide) (.slice va i vk) i (prL (netF S J i)) rfl (OWr.out.alloc _) ⟨wr.heap.size, 0, none⟩ 1 1 [.int .i64 (kA : Int), .int .i64 (kB : Int)] rfl rfl (newP wr kA kB 40) (oneP kA kB) (by unfold maxLen; omega) (by omega) (by simp; have := HSZ.out; omega) ?_; intro v' w5 hown hgrow _; rw [HNF.out] at hown; have K25 := Lib.hid ((K2r.out.alloc HSZ.out _).grown hgrow (by have := HSZ.out; simp; omega) (fun kk e => (OWr.out.lt kk e).1)); obtain ⟨va5, vk5, rfl⟩ := own_shape hown; have OW5 := Lib.hid hown; clear hown hgrow)
     go_roundw
     case rel => exact ⟨i + 1, va5, vk5, by omega, by go_num, rfl, OW5, K25⟩
     case measure => simp [intOf]; omega
  ·obtain rfl : i = n := by omega
   have e1 : decide ((i : Int) < (i : Int)) = false := by simp
   go_wp2
   go_ret2
   exact ⟨J, va, vk, by rw [← HNJ.out, ← HN.out]; rfl, HJ.out, by rw [← HN.out]; exact own_le OW.out KB.out.size, KB.out.trans (K2.out.mono KB.out.size)⟩
end Go.Proofs.YtolkchkedieppaaGreat
