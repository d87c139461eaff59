/- Lines of a cut: the walk. -/
import Derived.Test.YtolkchkedieppaaGreatZNetA
import Derived.Test.YtolkchkedieppaaGreatZRdB
import Derived.Maps.AppendAt
import Derived.RegionTactic
import Derived.Deep.RegionHeld3
set_option linter.unusedVariables false
set_option linter.unusedSimpArgs false
namespace Go.Proofs.YtolkchkedieppaaGreat
open Go.RowKit
attribute [local go_sem ↓] Go.wp_at_zero Go.wp_at_succ
set_option maxHeartbeats 8000000 in
set_option maxRecDepth 100000 in
theorem lines_any (bp gc cap : Nat) (S : List Tr) (w : World) (h0 : w.cell? ⟨bp, 0, none⟩ = some (.slice (some ⟨gc, 0, none⟩) S.length cap)) (hS : TrR w gc 0 S) (hg : gc < w.heap.size) (hb : bp < w.heap.size) (hn : S.length ≤ 24) (h1 : 1 ≤ S.length) (hR : ∀ i, i < S.length → RgT (S.getD i default)) :
  Calls Tryz.prog 55 #[.pointer (some ⟨bp, 0, none⟩)] w fun e w' => ∃ B g c P, w.heap.size ≤ B ∧ (rawF S S.length).Perm P ∧ P.Pairwise (fun a b => ¬ ltL b a) ∧
   e = .returned (.slice (some ⟨g, 0, none⟩) (joinF P (2 * S.length - 1)).length c) ∧
   w'.ownsRow B 96 3 (.slice (some ⟨g, 0, none⟩) (joinF P (2 * S.length - 1)).length c) (joinF P (2 * S.length - 1)).length (trL (joinF P (2 * S.length - 1))) ∧ Below w.heap.size w w' := by
 obtain ⟨i0, hinf, hz0, hz1, hz2⟩ := info_parts infoLn
 have HS := Lib.hid hS
 have HR := Lib.hid hR
 have OW0 : Hid (w.ownsRow w.heap.size 96 3 (.slice none 0 0) (2 * 0) (trL (rawF S 0))) := Lib.hid (World.ownsRow_nil _ _ _ _)
 have KB0 := Lib.hid (Below.refl w.heap.size w)
 clear hS hR
 go_enter Tryz.func55, Tryz.ntmps55
 go_wp2
 go_loopw [3, 5, 15] (fun v3 v5 v15 wr => ∃ k : Nat, k ≤ S.length ∧ v15 = .int .i64 (k : Nat) ∧ ∃ va vk, v3 = .slice va (2 * k) vk ∧ Hid (wr.ownsRow w.heap.size 96 3 (.slice va (2 * k) vk) (2 * k) (trL (rawF S k))) ∧ Hid (Below w.heap.size w wr)) (fun _ _ v15 _ => S.length - (intOf v15).toNat)
 case atStart => exact ⟨0, by omega, rfl, none, 0, rfl, OW0, KB0⟩
 case round =>
  clear KB0 OW0
  obtain ⟨k, hk, rfl, va, vk, rfl, OW, KB⟩ := hrel
  by_cases h : k < S.length
  ·have e1 : decide ((k : Int) < ((S.length : Nat) : Int)) = true := by simpa using h
   have e1n : decide (k < S.length) = true := by simpa using h
   have ix := fun W => ixSq gc S.length cap k h W
   have HR2 := Lib.hid (HS.out.below KB.out hg)
   have x0 := HR2.out.c0 k (by omega)
   have x1 := HR2.out.c1 k (by omega)
   have x2 := HR2.out.c2 k (by omega)
   have hr := HR.out k h
   simp only [Nat.zero_add] at x0 x1 x2
   have HQ0 : Hid (rawF S (k + 1) = rawF S k ++ [⟨(S.getD k default).b, (S.getD k default).a, (S.getD k default).a + (S.getD k default).c⟩, ⟨(S.getD k default).b + (S.getD k default).c, (S.getD k default).a, (S.getD k default).a + (S.getD k default).c⟩]) := Lib.hid rfl
   obtain ⟨q, hq⟩ : ∃ q, q = S.getD k default := ⟨_, rfl⟩
   rw [← hq] at x0 x1 x2 hr HQ0
   have q0 := hr.a0; have q1 := hr.b0; have q2 := hr.c0; have q3 := hr.c1; have q4 := hr.a1; have q5 := hr.b1
   have w6 : IntKind.i64.wrap (q.a + q.c) = q.a + q.c := by rw [IntKind.wrap_i64]; omega
   have w7 : IntKind.i64.wrap (q.b + q.c) = q.b + q.c := by rw [IntKind.wrap_i64]; omega
   clear hq q0 q1 q2 q3 q4 q5 hr
   go_upto_region 5 with (fail)
   have KB := Lib.hid (KB.out.alloc KB.out.size (.cells #[.int .i64 q.a, .int .i64 q.b, .int .i64 q.c] 47))
   have OW := Lib.hid (OW.out.alloc (.cells #[.int .i64 q.a, .int .i64 q.b, .int .i64 q.c] 47))
   have y0 : (wr.alloc (.cells #[.int .i64 q.a, .int .i64 q.b, .int .i64 q.c] 47)).cell? ⟨wr.heap.size, 0, none⟩ = some (.int .i64 q.a) := by simp [go_sem]
   have y1 : (wr.alloc (.cells #[.int .i64 q.a, .int .i64 q.b, .int .i64 q.c] 47)).cell? ⟨wr.heap.size, 1, none⟩ = some (.int .i64 q.b) := by simp [go_sem]
   have y2 : (wr.alloc (.cells #[.int .i64 q.a, .int .i64 q.b, .int .i64 q.c] 47)).cell? ⟨wr.heap.size, 2, none⟩ = some (.int .i64 q.c) := by simp [go_sem]
   generalize wr.alloc (.cells #[.int .i64 q.a, .int .i64 q.b, .int .i64 q.c] 47) = w2 at KB OW y0 y1 y2 ⊢
   obtain ⟨sb, hsb⟩ : ∃ sb, sb = wr.heap.size := ⟨_, rfl⟩
   rw [← hsb] at y0 y1 y2 ⊢
   clear hsb x0 x1 x2 ix HR2
   have HSZ := Lib.hid KB.out.size
   have HBK := Lib.hid OW.out.lt
   obtain ⟨p1, hp1⟩ : ∃ p1 : Tr, p1 = ⟨q.b, q.a, q.a + q.c⟩ := ⟨_, rfl⟩
   obtain ⟨p2, hp2⟩ : ∃ p2 : Tr, p2 = ⟨q.b + q.c, q.a, q.a + q.c⟩ := ⟨_, rfl⟩
   rw [← hp1, ← hp2] at HQ0
   have HQ : Hid (trL (rawF S k) ++ (trC p1 ++ trC p2) = trL (rawF S (k + 1))) := Lib.hid (by rw [HQ0.out, trL_app]; simp [trL])
   have HP1 := Lib.hid hp1
   have HP2 := Lib.hid hp2
   clear hp1 hp2 HQ0
   go_wp2_with (at_builtin; refine wpList_append_own _ rfl (.tmp 19) (.tmp 43) 92 rfl w.heap.size 96 i0 _ 3 24 Tryz.underlying92 hinf hz0 hz1 hz2 rfl (by decide) (.slice va (2 * k) vk) (2 * k) (trL (rawF S k)) rfl (OW.out.alloc _) ⟨w2.heap.size, 0, none⟩ 2 2 (trC p1 ++ trC p2) rfl rfl (by rw [HP1.out, HP2.out]; exact newT2 w2 ⟨q.b, q.a, q.a + q.c⟩ ⟨q.b + q.c, q.a, q.a + q.c⟩ 96) (trC2_one _ _) (by unfold maxLen; omega) (by omega) (by simp; have := HSZ.out; omega) ?_; intro v' w5 hown hgrow _; rw [HQ.out] at hown; obtain ⟨va', vk', rfl⟩ := own_shape hown; have OW := Lib.hid hown; have KB := Lib.hid ((KB.out.alloc KB.out.size _).grown hgrow (by have := HSZ.out; simp; omega) (fun kk e => (HBK.out kk e).1)); clear hown hgrow)
   go_roundw
   case rel => exact ⟨k + 1, by omega, by go_num, va', vk', by rw [Nat.mul_succ], OW, KB⟩
   case measure => simp [intOf]; omega
  ·obtain rfl : k = S.length := by omega
   have e1 : decide (((S.length : Nat) : Int) < ((S.length : Nat) : Int)) = false := by simp
   have hrl := rawF_len S S.length
   obtain ⟨g, c, hgc, _, _⟩ := OW.out.form (by omega)
   injection hgc with e2 _ e3
   subst e2 e3
   have OW : Hid (wr.ownsRow w.heap.size 96 3 (.slice (some ⟨g, 0, none⟩) (rawF S S.length).length vk) (rawF S S.length).length (trL (rawF S S.length))) := Lib.hid (by rw [hrl]; exact OW.out)
   rw [← hrl]
   have HRL := Lib.hid hrl
   have hsrt := sortLn_any wr w.heap.size g vk (rawF S S.length) OW.out (by omega)
   obtain ⟨R, hR⟩ : ∃ R, R = rawF S S.length := ⟨_, rfl⟩
   rw [← hR] at OW HRL hsrt ⊢
   have HRR := Lib.hid hR
   have hvk : R.length ≤ vk := own_cap OW.out
   have hv1 : ¬ vk = 1 := by have hrr := HRL.out; intro hv; rw [hrr, hv] at hvk; omega
   have hv3 : 1 ≤ R.length := by have := HRL.out; omega
   have hv2 : 1 ≤ vk := by omega
   clear hrl hR
   go_wp2_with (go_at_call 106; (with_reducible refine hsrt.mono ?_); rintro e w6 ⟨rfl, P', hl, hp, hs, hr, hb, hgs, hfr⟩; have HL := Lib.hid hl; have HPM := Lib.hid hp; have HSO := Lib.hid hs; have HTR := Lib.hid hr; have HB6 := Lib.hid hb; have HGS := Lib.hid hgs; have HFR := Lib.hid hfr; clear hl hp hs hr hb hgs hfr)
   go_upto_region 8 with (fail)
   obtain ⟨N, hN⟩ : ∃ N, N = R.length := ⟨_, rfl⟩
   have HN := Lib.hid (HL.out.trans hN.symm)
   have hN2 : N = 2 * S.length := hN.trans HRL.out
   rw [← hN] at hvk ⊢
   have HTR : Hid (w6.ownsRow w.heap.size 96 3 (.slice (some ⟨g, 0, none⟩) N vk) N (trL (joinF P' 0 ++ P'.drop (joinF P' 0).length))) := Lib.hid (by
    have e : joinF P' 0 ++ P'.drop (joinF P' 0).length = P' := by
     have := drop_cons_getD P' 0 (by have := HN.out; omega)
     simp only [joinF, List.length_singleton, List.singleton_append]
     rw [Nat.zero_add] at this
     rw [← this]; rfl
    rw [e, ← HN.out]; exact HTR.out)
   have KB := Lib.hid (KB.out.trans (HB6.out.mono (OW.out.lt g rfl).1))
   have hN48 : N ≤ 48 := by omega
   have hNp : 2 ≤ N := by omega
   clear OW hN hN2 HL HFR hsrt HB6
   go_wp2
   go_loopw [6, 8, 9, 53] (fun v6 v8 v9 v53 wz => ∃ j : Nat, j + 1 ≤ N ∧ v53 = .int .i64 (j : Nat) ∧ v6 = .slice (some ⟨g, 0, none⟩) (joinF P' j).length vk ∧ Hid (wz.ownsRow w.heap.size 96 3 (.slice (some ⟨g, 0, none⟩) N vk) N (trL (joinF P' j ++ P'.drop (joinF P' j).length))) ∧ Hid (Below w.heap.size w wz)) (fun _ _ _ v53 _ => N - (intOf v53).toNat)
   case atStart => exact ⟨0, by omega, rfl, rfl, HTR, KB⟩
   case round =>
    clear KB HTR
    obtain ⟨j, hj, rfl, rfl, HTR, KB⟩ := hrel
    by_cases h : j + 1 < N
    ·have e1 : decide ((j : Int) < ((N - 1 : Nat) : Int)) = true := by simp; omega
     have e1n : decide (j < N - 1) = true := by simp; omega
     have hJ := joinF_len P' j
     have hjn : joinF P' (j + 1) = jn (joinF P' j) (P'.getD (j + 1) default) := rfl
     obtain ⟨J, hJd⟩ : ∃ J, J = joinF P' j := ⟨_, rfl⟩
     rw [← hJd] at hJ hjn HTR ⊢
     have ix := fun W => ixLn3 g (N - 1) (vk - 1) j (by omega) W
     have hx := trR_own (P := J ++ P'.drop J.length) (cap := vk) (by rw [show (J ++ P'.drop J.length).length = N by have := HN.out; simp; omega]; exact HTR.out)
     have hlen : (J ++ P'.drop J.length).length = N := by have := HN.out; simp; omega
     have x0 := hx.c0 (j + 1) (by omega)
     have x1 := hx.c1 (j + 1) (by omega)
     have x2 := hx.c2 (j + 1) (by omega)
     rw [join_get (by omega) (by have := HN.out; omega)] at x0 x1 x2
     have z0 := hx.c0 (J.length - 1) (by omega)
     have z1 := hx.c1 (J.length - 1) (by omega)
     have z2 := hx.c2 (J.length - 1) (by omega)
     rw [join_get_old (by omega)] at z0 z1 z2
     have hjp : J.length < P'.length := by have := HN.out; omega
     obtain ⟨q, hq⟩ : ∃ q, q = P'.getD (j + 1) default := ⟨_, rfl⟩
     obtain ⟨p, hp⟩ : ∃ p, p = J.getD (J.length - 1) default := ⟨_, rfl⟩
     simp only [Nat.zero_add] at x0 x1 x2 z0 z1 z2
     rw [← hq] at x0 x1 x2 hjn
     rw [← hp] at z0 z1 z2
     have hfz := fun t => HTR.out.frozenAt t
     have HJD := Lib.hid hJd
     have HPD := Lib.hid hp
     have hgw : w.heap.size ≤ g := (HTR.out.lt g rfl).1
     clear hx hq hJd hp
     go_upto_region 12 with (fail)
     have KB := Lib.hid (KB.out.alloc KB.out.size (.cells #[.int .i64 q.a, .int .i64 q.b, .int .i64 q.c] 96))
     have hgz := (HTR.out.lt g rfl).2
     have BW := Lib.hid ((Below.refl wr.heap.size wr).alloc (Nat.le_refl _) (.cells #[.int .i64 q.a, .int .i64 q.b, .int .i64 q.c] 96))
     have HTR := Lib.hid (HTR.out.alloc (.cells #[.int .i64 q.a, .int .i64 q.b, .int .i64 q.c] 96))
     have y0 : (wr.alloc (.cells #[.int .i64 q.a, .int .i64 q.b, .int .i64 q.c] 96)).cell? ⟨wr.heap.size, 0, none⟩ = some (.int .i64 q.a) := by simp [go_sem]
     have y1 : (wr.alloc (.cells #[.int .i64 q.a, .int .i64 q.b, .int .i64 q.c] 96)).cell? ⟨wr.heap.size, 1, none⟩ = some (.int .i64 q.b) := by simp [go_sem]
     have y2 : (wr.alloc (.cells #[.int .i64 q.a, .int .i64 q.b, .int .i64 q.c] 96)).cell? ⟨wr.heap.size, 2, none⟩ = some (.int .i64 q.c) := by simp [go_sem]
     have hsz2 : (wr.alloc (.cells #[.int .i64 q.a, .int .i64 q.b, .int .i64 q.c] 96)).heap.size = wr.heap.size + 1 := by simp
     obtain ⟨m, hm⟩ : ∃ m, m = J.length - 1 := ⟨_, rfl⟩
     rw [← hm] at z0 z1 z2
     have v0 := (BW.out.cell (p := ⟨g, m * 3, none⟩) hgz).trans z0
     have v1 := (BW.out.cell (p := ⟨g, m * 3 + 1, none⟩) hgz).trans z1
     have v2 := (BW.out.cell (p := ⟨g, m * 3 + 2, none⟩) hgz).trans z2
     obtain ⟨sb, hsb⟩ : ∃ sb, sb = wr.heap.size := ⟨_, rfl⟩
     have hsg : ¬ sb = g := by omega
     rw [← hsb] at y0 y1 y2 hsz2 ⊢
     generalize wr.alloc (.cells #[.int .i64 q.a, .int .i64 q.b, .int .i64 q.c] 96) = w2 at KB HTR y0 y1 y2 v0 v1 v2 hsz2 ⊢
     have hm1 : IntKind.i64.wrap ((J.length : Nat) - (1 : Int)) = (m : Int) := by rw [IntKind.wrap_i64]; omega
     have ix2 := fun W => ixLn g J.length vk m (by omega) W
     have HM := Lib.hid hm
     clear x0 x1 x2 z0 z1 z2 ix hsb BW hgz hm
     go_upto_region 13 with (fail)
     go_cut [77] (fun v77 wx => ∃ t : Bool, v77 = .bool t ∧ (t = true ↔ (p.a = q.a ∧ q.b ≤ p.c)) ∧ ∃ nq, wx = w2.drewN nq)
     case first =>
      by_cases u1 : p.a = q.a
      ·have f1 : (p.a == q.a) = true := by simpa using u1
       have f1d : decide (p.a = q.a) = true := by simpa using u1
       by_cases u2 : q.b ≤ p.c
       ·have f2 : decide (q.b ≤ p.c) = true := by simpa using u2
        have HU : Hid (p.a = q.a ∧ q.b ≤ p.c) := Lib.hid ⟨u1, u2⟩
        clear u1 u2
        go_quiet (fail)
        go_wp2
        go_meet
        case rel => exact ⟨true, rfl, ⟨fun _ => HU.out, fun _ => rfl⟩, _, rfl⟩
       ·have f2 : decide (q.b ≤ p.c) = false := by simpa using u2
        have HU : Hid (¬ (p.a = q.a ∧ q.b ≤ p.c)) := Lib.hid (fun e => u2 e.2)
        clear u1 u2
        go_quiet (fail)
        go_wp2
        go_meet
        case rel => exact ⟨false, rfl, ⟨fun e => absurd e (by decide), fun e => absurd e HU.out⟩, _, rfl⟩
      ·have f1 : (p.a == q.a) = false := by simpa using u1
       have f1d : decide (p.a = q.a) = false := by simpa using u1
       have HU : Hid (¬ (p.a = q.a ∧ q.b ≤ p.c)) := Lib.hid (fun e => u1 e.1)
       clear u1
       go_quiet (fail)
       go_wp2
       go_meet
       case rel => exact ⟨false, rfl, ⟨fun e => absurd e (by decide), fun e => absurd e HU.out⟩, _, rfl⟩
     case rest =>
      obtain ⟨t, rfl, ht, nq, rfl⟩ := hcut
      have HTR := Lib.hid (own_kept HTR.out (below_drawN (Below.refl w2.heap.size w2) nq))
      have KB := Lib.hid (KB.out.trans (below_drawN (Below.refl w.heap.size w2) nq))
      have hf2 : (w2.drewN nq).frozen? ⟨g, m * 3 + 2, none⟩ = false := HTR.out.frozenAt _
      change (w2.drewN nq).heap.size = sb + 1 at hsz2
      change (w2.drewN nq).cell? _ = _ at y0
      change (w2.drewN nq).cell? _ = _ at y1
      change (w2.drewN nq).cell? _ = _ at y2
      change (w2.drewN nq).cell? _ = _ at v0
      change (w2.drewN nq).cell? _ = _ at v1
      change (w2.drewN nq).cell? _ = _ at v2
      generalize w2.drewN nq = w3 at HTR KB hf2 hsz2 y0 y1 y2 v0 v1 v2 ⊢
      clear hsz2
      rcases t with _ | _
      ·have hj2 : joinF P' (j + 1) = J ++ [q] := by
        rw [hjn, jn, if_neg]
        rw [← HPD.out]; intro e; exact absurd (ht.2 e) (by decide)
       clear ht hjn
       have HJ2 := Lib.hid hj2
       clear hj2
       go_wp2_with (at_builtin; refine wpList_append_inner _ rfl (.tmp 88) (.tmp 90) 92 rfl w.heap.size 96 i0 3 Tryz.underlying92 hinf hz1 g J.length N vk (trL (J ++ P'.drop J.length)) rfl (HTR.out.alloc _) ⟨w3.heap.size, 0, none⟩ 1 1 (trC q) rfl rfl (newT1 w3 q 96) (trC_one q) (by have := HN.out; omega) ?_; intro w5 hown hgrow; rw [join_push (by have := HN.out; omega)] at hown; have HTR := Lib.hid hown; have KB := Lib.hid ((KB.out.alloc KB.out.size _).grown hgrow (by have := KB.out.size; simp; omega) (fun kk e => by cases e; exact hgw)); clear hown hgrow)
       go_roundw
       case rel => exact ⟨j + 1, by omega, by go_num, by rw [HJ2.out]; simp, by rw [HJ2.out]; exact HTR, KB⟩
       case measure => simp [intOf]; omega
      ·obtain ⟨mx, hmx⟩ : ∃ mx, mx = if p.c < q.c then q.c else p.c := ⟨_, rfl⟩
       have hj2 : joinF P' (j + 1) = J.set (J.length - 1) ⟨p.a, p.b, mx⟩ := by
        rw [hjn, jn, if_pos]
        ·rw [← HPD.out, hmx]
        ·rw [← HPD.out]; exact ht.1 rfl
       have hmx1 : max p.c q.c = mx := by rw [hmx]; split <;> omega
       have hmx2 : (if p.c < q.c then q.c else p.c) = mx := hmx.symm
       have hst := own_kept HTR.out (Below.refl w3.heap.size w3)
       have hset := (HTR.out.stored ((J.length - 1) * 3 + 2) (.int .i64 mx)).1
       rw [join_set (x := ⟨p.a, p.b, mx⟩) hJ.1 (by omega) (by rw [HPD.out])] at hset
       rw [← HM.out] at hset hj2
       have HSET := Lib.hid hset
       have HJ2 := Lib.hid hj2
       have KB2 := Lib.hid (KB.out.setCell (p := ⟨g, m * 3 + 2, none⟩) hgw (.int .i64 mx))
       have hll : (joinF P' (j + 1)).length = J.length := by rw [hj2]; simp
       have HLL := Lib.hid hll
       clear ht hjn hmx hst hset hj2 hll
       go_upto_region 14 with (fail)
       go_region
       all_goals
        go_wp2
        go_roundw
        case rel => exact ⟨j + 1, by omega, by go_num, by rw [HLL.out], by rw [HJ2.out]; exact HSET, Lib.hid KB2.out.drew⟩
        case measure => simp [intOf]; omega
    ·obtain ⟨M, hM⟩ : ∃ M, M = j + 1 := ⟨_, rfl⟩
     have hMN : M = N := by omega
     have e1 : decide ((j : Int) < ((N - 1 : Nat) : Int)) = false := by simp; omega
     have e1n : decide (j < N - 1) = false := by simp; omega
     have hJ := joinF_len P' j
     have HFin : Hid (wr.ownsRow w.heap.size 96 3 (.slice (some ⟨g, 0, none⟩) (joinF P' j).length vk) (joinF P' j).length (trL (joinF P' j))) := Lib.hid (by
      have hn := HN.out
      rcases HTR.out.2 with ⟨h', _⟩ | ⟨g', cap', cur, h', hb', hg', hnc, hcm, hcs, htake⟩
      ·simp at h'
      ·simp only [Value.slice.injEq, Option.some.injEq, Addr.mk.injEq, and_true, true_and] at h'
       obtain ⟨rfl, rfl⟩ := h'
       refine ⟨trL_len _, .inr ⟨g, vk, cur, rfl, hb', hg', by omega, hcm, hcs, ?_⟩⟩
       have e := congrArg (List.take ((joinF P' j).length * 3)) htake
       rw [List.take_take, Nat.min_eq_left (by omega), trL_app, List.take_append_of_le_length (by rw [trL_len]; exact Nat.le_refl _), List.take_of_length_le (l := trL (joinF P' j)) (by rw [trL_len]; exact Nat.le_refl _)] at e
       exact e)
     have hje : j = 2 * S.length - 1 := by have := HN.out; have := HRL.out; have := HPM.out.length_eq; omega
     rw [hje] at HFin
     have HJE := Lib.hid hje
     clear hje hM hMN h HTR
     go_wp2
     go_ret
     exact ⟨w.heap.size, g, vk, P', Nat.le_refl _, by rw [← HRR.out]; exact HPM.out, HSO.out, by rw [← HJE.out]; rfl, HFin.out, KB.out⟩
end Go.Proofs.YtolkchkedieppaaGreat

/- Network of package hide at a valid cut. -/
namespace Go.Proofs.YtolkchkedieppaaGreat
open Go.RowKit
attribute [local go_sem ↓] Go.wp_at_zero Go.wp_at_succ
/-- append at a step of a region that draws -/
theorem step_append_own {P : Program} {w : World} {ops : Array Oper} {o : Oper} {a : Act} {K : Act → World → Prop} {Q : Exit → Act → World → Prop} {E : Prop} (hgd : o.guard = none) (s x : Operand) (t : TypeId)
  (ho : o.op = .call { callee := .builtin .append, args := #[s, x], argTypes := #[t, t] })
  (base : Nat) (e : TypeId) (i : TypeInfo) (z : Value) (size bytes : Nat) (ht : P.underlying t = some (.slice e)) (hi : P.info? e = some i) (hz : i.zero = some z)
  (hsize : i.size = size) (hby : i.bytes = bytes) (hzs : z.cells.size = size) (hsz : 0 < size)
  (v : Value) (n : Nat) (xs : List Value) (hs : a.eval s = v) (hown : w.ownsRow base e size v n xs)
  (ad : Addr) (m c : Nat) (news : List Value) (hx : a.eval x = .slice (some ad) m c) (hl : news.length = m * size) (hnews : ∀ j u, news[j]? = some u → w.cell? (ad.add j) = some u) (h1 : ∀ u ∈ news, u.oneCell' = true)
  (h63 : n + m ≤ maxLen) (hbytes : (n + m) * bytes ≤ 140737488355328) (hbase : base ≤ w.heap.size)
  (h : ∀ v' w', w'.ownsRow base e size v' (n + m) (xs ++ news) → w.grownBy w' v.ownBlock → K (a.put o.dst v') w') :
  if Region.wanted o (yielded ops a.tmps) = true then Oper.wp P o a w K Q else E := by
 have hw : Region.wanted o (yielded ops a.tmps) = true := by simp [Region.wanted, hgd]
 rw [if_pos hw]
 exact wp_append_own w s x t ho base e i z size bytes ht hi hz hsize hby hzs hsz v n xs hs hown ad m c news hx hl hnews h1 h63 hbytes hbase (fun v' w' h2 h3 _ => h v' w' h2 h3)
/-- pairs as cells -/
def prL : List (Int × Int) → List Value
 | [] => []
 | p :: l => [.int .i64 p.1, .int .i64 p.2] ++ prL l
theorem prL_app (a b : List (Int × Int)) : prL (a ++ b) = prL a ++ prL b := by
 induction a with
 | nil => rfl
 | cons x a ih => simp [prL, ih]
/-- the wires of the first k squares -/
def netF (S J : List Tr) : Nat → List (Int × Int)
 | 0 => []
 | k + 1 => netF S J k ++ [(onF J (S.getD k default).a (S.getD k default).b, onF J (S.getD k default).a ((S.getD k default).b + (S.getD k default).c))]
theorem infoPr : (Tryz.prog.info? 40).map (fun i => (i.zero, i.size, i.bytes)) = some (some (.agg #[.int .i64 0, .int .i64 0]), 2, 16) := by kernel_rfl
theorem newP (w : World) (x y : Int) (t : TypeId) : ∀ j u, ([.int .i64 x, .int .i64 y] : List Value)[j]? = some u → (w.alloc (.cells #[.int .i64 x, .int .i64 y] t)).cell? ((⟨w.heap.size, 0, none⟩ : Addr).add j) = some u := fun j u hj => by
 have hadd : (⟨w.heap.size, 0, none⟩ : Addr).add j = ⟨w.heap.size, j, none⟩ := by unfold Addr.add; split <;> simp_all
 rw [hadd]
 simp [go_sem]
 exact hj
theorem oneP (x y : Int) : ∀ u ∈ ([.int .i64 x, .int .i64 y] : List Value), u.oneCell' = true := fun u hu => by
 simp at hu
 rcases hu with rfl | rfl <;> rfl
set_option maxHeartbeats 8000000 in
set_option maxRecDepth 100000 in
theorem network_good (g0 c0 : Nat) (S : List Tr) (w : World) (hS : TrR w g0 0 S) (hg : g0 < w.heap.size) (hc : S.length ≤ c0) (hC : CutOK S) :
  Calls Tryz.prog 20 #[.slice (some ⟨g0, 0, none⟩) S.length c0] w fun e w' => ∃ va vk S' P B, S'.length = S.length ∧ S.Perm S' ∧ S'.Pairwise (fun a b => ¬ ltS b a) ∧ (rawF S' S.length).Perm P ∧ P.Pairwise (fun a b => ¬ ltL b a) ∧
   e = .returned (.tuple #[.int .i64 ((joinF P (2 * S.length - 1)).length : Nat), .slice va S.length vk, .int .i64 0]) ∧ w.heap.size ≤ B ∧
   w'.ownsRow B 40 2 (.slice va S.length vk) S.length (prL (netF S' (joinF P (2 * S.length - 1)) S.length)) ∧ Below w.heap.size w w' := by
 obtain ⟨i0, hinf, hz0, hz1, hz2⟩ := info_parts infoPr
 have hcon := read_good g0 c0 S w hS hg hc hC
 have hn24 := hC.few
 have hn1 := hC.pos
 have HRG : Hid (∀ q, q ∈ S → RgT q) := Lib.hid (fun q hq => by
  obtain ⟨j, hj, rfl⟩ := List.getElem_of_mem hq
  have := hC.rg j hj
  simpa [hj] using this)
 clear hS hg hc hC
 go_enter Tryz.func20, Tryz.ntmps20
 go_wp2_with (go_at_call 54; (with_reducible refine hcon.mono ?_); rintro e w1 ⟨bp, gc, cap, S', rfl, hl, hp, hs, h0, h1, h2, hr, hg, hb, hK⟩; have HL := Lib.hid hl; have HPM := Lib.hid hp; have HSO := Lib.hid hs; have HTR := Lib.hid hr; have KW := Lib.hid hK; clear hl hp hs hr hK)
 have hlin := lines_any bp gc cap S' w1 (by rw [HL.out]; exact h0) HTR.out hg hb (by rw [HL.out]; exact hn24) (by rw [HL.out]; exact hn1) (fun i hi => HRG.out _ (HPM.out.mem_iff.2 (by simp [hi])))
 rw [HL.out] at hlin
 clear h1 h2 hcon
 go_upto_region 4 with (fail)
 go_wp2_with (go_at_call 55; (with_reducible refine hlin.mono ?_); rintro e w2 ⟨B, g, c, P, hB, hp, hs, rfl, ho, hb2⟩; have HBB := Lib.hid hB; have HPP := Lib.hid hp; have HPS := Lib.hid hs; have HLO := Lib.hid ho; have KB := Lib.hid hb2; have z0 := (hb2.cell (p := ⟨bp, 0, none⟩) hb).trans h0; have hne1 : ¬ w2.heap.size = bp := (by have := hb2.size; omega); have hne2 : ¬ bp = w2.heap.size := (by have := hb2.size; omega); have hbl : bp < w2.heap.size := (by have := hb2.size; omega); clear hB hp hs ho hb2 hlin)
 obtain ⟨J, hJ⟩ : ∃ J, J = joinF P (2 * S.length - 1) := ⟨_, rfl⟩
 have hJl := joinF_len P (2 * S.length - 1)
 rw [← hJ] at HLO hJl ⊢
 have HJ := Lib.hid hJ
 have AL := Lib.hid ((Below.refl w2.heap.size w2).alloc (Nat.le_refl _) (.cells #[.slice (some ⟨g, 0, none⟩) J.length c] 92))
 have hgl := (HLO.out.lt g rfl)
 have HJR := Lib.hid ((trR_own HLO.out).below AL.out hgl.2)
 have ZN : Hid ((w2.alloc (.cells #[.slice (some ⟨g, 0, none⟩) J.length c] 92)).cell? ⟨w2.heap.size, 0, none⟩ = some (.slice (some ⟨g, 0, none⟩) J.length c)) := Lib.hid (by simp [go_sem])
 have hns : (w2.alloc (.cells #[.slice (some ⟨g, 0, none⟩) J.length c] 92)).heap.size = w2.heap.size + 1 := by simp
 have hg3 : Hid (g < (w2.alloc (.cells #[.slice (some ⟨g, 0, none⟩) J.length c] 92)).heap.size) := Lib.hid (by rw [hns]; omega)
 have hn3 : Hid (w2.heap.size < (w2.alloc (.cells #[.slice (some ⟨g, 0, none⟩) J.length c] 92)).heap.size) := Lib.hid (by rw [hns]; omega)
 have HTR := Lib.hid ((HTR.out.below KB.out hg).below (B := w2.heap.size) AL.out (Nat.lt_of_lt_of_le hg KB.out.size))
 have HGC : Hid (gc < (w2.alloc (.cells #[.slice (some ⟨g, 0, none⟩) J.length c] 92)).heap.size) := Lib.hid (by rw [hns]; have := KB.out.size; omega)
 have K3 := Lib.hid ((KW.out.trans (KB.out.mono KW.out.size)).trans (AL.out.mono (Nat.le_trans KW.out.size KB.out.size)))
 clear hJ hns AL HLO
 clear hne1 hne2 hbl
 generalize w2.alloc (.cells #[.slice (some ⟨g, 0, none⟩) J.length c] 92) = w3 at HJR ZN hg3 hn3 HTR HGC K3 ⊢
 obtain ⟨nb, hnb⟩ : ∃ nb, nb = w2.heap.size := ⟨_, rfl⟩
 rw [← hnb] at ZN hn3 ⊢
 clear hnb z0
 have OW0 : Hid (w3.ownsRow w3.heap.size 40 2 (.slice none 0 0) 0 (prL (netF S' J 0))) := Lib.hid (World.ownsRow_nil _ _ _ _)
 have KB0 := Lib.hid (Below.refl w3.heap.size w3)
 go_loopw [9, 11, 28] (fun v9 v11 v28 wr => ∃ k : Nat, k ≤ S.length ∧ v28 = .int .i64 (k : Nat) ∧ ∃ va vk, v9 = .slice va k vk ∧ Hid (wr.ownsRow w3.heap.size 40 2 (.slice va k vk) k (prL (netF S' J k))) ∧ Hid (Below w3.heap.size w3 wr)) (fun _ _ v28 _ => S.length - (intOf v28).toNat)
 case atStart => exact ⟨0, by omega, rfl, none, 0, rfl, OW0, KB0⟩
 case round =>
  clear OW0 KB0
  obtain ⟨k, hk, rfl, va, vk, rfl, OW, KB⟩ := hrel
  by_cases h : k < S.length
  ·have e1 : decide ((k : Int) < ((S.length : Nat) : Int)) = true := by simpa using h
   have e1n : decide (k < S.length) = true := by simpa using h
   have ix := fun W => ixSq gc S.length cap k h W
   have HR2 := Lib.hid (HTR.out.below KB.out HGC.out)
   have x0 := HR2.out.c0 k (by have := HL.out; omega)
   have x1 := HR2.out.c1 k (by have := HL.out; omega)
   have x2 := HR2.out.c2 k (by have := HL.out; omega)
   have hr := HRG.out (S'.getD k default) (HPM.out.mem_iff.2 (by simp [show k < S'.length by have := HL.out; omega]))
   have hnf : netF S' J (k + 1) = netF S' J k ++ [(onF J (S'.getD k default).a (S'.getD k default).b, onF J (S'.getD k default).a ((S'.getD k default).b + (S'.getD k default).c))] := rfl
   obtain ⟨q, hq⟩ : ∃ q, q = S'.getD k default := ⟨_, rfl⟩
   simp only [Nat.zero_add] at x0 x1 x2
   rw [← hq] at x0 x1 x2 hr hnf
   have q0 := hr.a0; have q1 := hr.b0; have q2 := hr.c0; have q3 := hr.c1; have q4 := hr.a1; have q5 := hr.b1
   have w7 : IntKind.i64.wrap (q.b + q.c) = q.b + q.c := by rw [IntKind.wrap_i64]; omega
   obtain ⟨o1, ho1⟩ : ∃ o1, o1 = onF J q.a q.b := ⟨_, rfl⟩
   obtain ⟨o2, ho2⟩ : ∃ o2, o2 = onF J q.a (q.b + q.c) := ⟨_, rfl⟩
   rw [← ho1, ← ho2] at hnf
   have HNF : Hid (prL (netF S' J k) ++ [.int .i64 o1, .int .i64 o2] = prL (netF S' J (k + 1))) := Lib.hid (by rw [hnf, prL_app]; rfl)
   have HO1 := Lib.hid ho1
   have HO2 := Lib.hid ho2
   clear hq q0 q1 q2 q3 q4 q5 hr hnf ho1 ho2
   go_upto_region 10 with (fail)
   have HNE : Hid (some wr.heap.size ≠ (Value.slice va k vk).ownBlock) := Lib.hid (fun e => by have := (OW.out.lt _ e.symm).2; omega)
   have KB := Lib.hid (KB.out.alloc KB.out.size (.cells #[.int .i64 q.a, .int .i64 q.b, .int .i64 q.c] 47))
   have OW := Lib.hid (OW.out.alloc (.cells #[.int .i64 q.a, .int .i64 q.b, .int .i64 q.c] 47))
   have y0 : (wr.alloc (.cells #[.int .i64 q.a, .int .i64 q.b, .int .i64 q.c] 47)).cell? ⟨wr.heap.size, 0, none⟩ = some (.int .i64 q.a) := by simp [go_sem]
   have y1 : (wr.alloc (.cells #[.int .i64 q.a, .int .i64 q.b, .int .i64 q.c] 47)).cell? ⟨wr.heap.size, 1, none⟩ = some (.int .i64 q.b) := by simp [go_sem]
   have y2 : (wr.alloc (.cells #[.int .i64 q.a, .int .i64 q.b, .int .i64 q.c] 47)).cell? ⟨wr.heap.size, 2, none⟩ = some (.int .i64 q.c) := by simp [go_sem]
   have hsl : wr.heap.size < (wr.alloc (.cells #[.int .i64 q.a, .int .i64 q.b, .int .i64 q.c] 47)).heap.size := by simp
   generalize wr.alloc (.cells #[.int .i64 q.a, .int .i64 q.b, .int .i64 q.c] 47) = w4 at KB OW y0 y1 y2 hsl ⊢
   obtain ⟨sb, hsb⟩ : ∃ sb, sb = wr.heap.size := ⟨_, rfl⟩
   rw [← hsb] at y0 y1 y2 hsl HNE ⊢
   have HZ4 := Lib.hid KB.out.size
   have HON : Hid (∀ wX, Below w4.heap.size w4 wX → ∀ x y, Calls Tryz.prog 56 #[.int .i64 x, .int .i64 y, .pointer (some ⟨nb, 0, none⟩)] wX fun e w' => e = .returned (.int .i64 (onF J x y)) ∧ Below wX.heap.size wX w') := Lib.hid (fun wX hX x y => by
    have hB := KB.out.trans (hX.mono KB.out.size)
    exact on_any wX g c nb J x y ((hB.cell (p := ⟨nb, 0, none⟩) hn3.out).trans ZN.out) (HJR.out.below hB hg3.out) (Nat.lt_of_lt_of_le hg3.out hB.size) (Nat.lt_of_lt_of_le hn3.out hB.size) (by omega))
   have keepR : Hid (∀ w', Below w4.heap.size w4 w' → w'.cell? ⟨sb, 0, none⟩ = some (.int .i64 q.a) ∧ w'.cell? ⟨sb, 1, none⟩ = some (.int .i64 q.b) ∧ w'.cell? ⟨sb, 2, none⟩ = some (.int .i64 q.c)) := Lib.hid (fun w' hb' =>
    ⟨(hb'.cell (p := ⟨sb, 0, none⟩) hsl).trans y0, (hb'.cell (p := ⟨sb, 1, none⟩) hsl).trans y1, (hb'.cell (p := ⟨sb, 2, none⟩) hsl).trans y2⟩)
   have VL0 := Lib.hid (Below.refl w4.heap.size w4).drew
   clear x0 x1 x2 ix HR2 hsb hsl y0 y1 y2
   go_region_held3 (fun w' => w'.cell? ⟨sb, 0, none⟩ = some (.int .i64 q.a) ∧ w'.cell? ⟨sb, 1, none⟩ = some (.int .i64 q.b) ∧ w'.cell? ⟨sb, 2, none⟩ = some (.int .i64 q.c))
    (first | (with_reducible exact keepR.out _ VL0.out) | (with_reducible exact keepR.out _ VL1.out) | (with_reducible exact keepR.out _ VL2.out) | (with_reducible exact keepR.out _ VLA.out) | (with_reducible exact K7.out))
    (first
    | (go_at_call 56; (first
      | (with_reducible refine (HON.out _ VL0.out q.a q.b).mono ?_; rw [← HO1.out]; rintro e wa ⟨rfl, hba⟩; have VL1 := Lib.hid (VL0.out.trans (hba.mono VL0.out.size)); clear hba)
      | (with_reducible refine (HON.out _ VL1.out q.a (q.b + q.c)).mono ?_; rw [← HO2.out]; rintro e wb ⟨rfl, hbb⟩; have VL2 := Lib.hid (VL1.out.trans (hbb.mono VL1.out.size)); clear hbb; have VLA := Lib.hid (VL2.out.alloc VL2.out.size (.cells #[.int .i64 o1, .int .i64 o2] 40)); have OWA := Lib.hid ((own_kept OW.out VL2.out).alloc (.cells #[.int .i64 o1, .int .i64 o2] 40)); have HA3 := Lib.hid (Nat.le_trans HZ4.out VLA.out.size))))
    | ((refine step_append_own (by rfl) _ _ _ (by rfl) w3.heap.size 40 i0 _ 2 16 Tryz.underlying33 hinf hz0 hz1 hz2 rfl (by decide) (.slice va k vk) k (prL (netF S' J k)) (by rfl) OWA.out ⟨wb.heap.size, 0, none⟩ 1 1 [.int .i64 o1, .int .i64 o2] (by rfl) (by rfl) (newP wb o1 o2 40) (oneP o1 o2) (by unfold maxLen; omega) (by omega) HA3.out ?_; intro v' w7 hown hgrow; rw [HNF.out] at hown; obtain ⟨va', vk', rfl⟩ := own_shape hown; have K7 := Lib.hid (show w7.cell? ⟨sb, 0, none⟩ = some (.int .i64 q.a) ∧ w7.cell? ⟨sb, 1, none⟩ = some (.int .i64 q.b) ∧ w7.cell? ⟨sb, 2, none⟩ = some (.int .i64 q.c) from ⟨hgrow.cell (keepR.out _ VLA.out).1 HNE.out, hgrow.cell (keepR.out _ VLA.out).2.1 HNE.out, hgrow.cell (keepR.out _ VLA.out).2.2 HNE.out⟩); have OW7 := Lib.hid hown; have KB7 := Lib.hid ((KB.out.trans (VLA.out.mono KB.out.size)).grown hgrow HA3.out (fun kk e => (OWA.out.lt kk e).1)); clear hown hgrow)))
   all_goals
    go_wp2
    go_roundw
    case rel => exact ⟨k + 1, by omega, by go_num, va', vk', rfl, OW7, KB7⟩
    case measure => simp [intOf]; omega
  ·obtain rfl : k = S.length := by omega
   have e1 : decide (((S.length : Nat) : Int) < ((S.length : Nat) : Int)) = false := by simp
   have zn := (KB.out.cell (p := ⟨nb, 0, none⟩) hn3.out).trans ZN.out
   have KF := Lib.hid (K3.out.trans (KB.out.mono K3.out.size))
   go_wp2
   go_ret3
   exact ⟨va, vk, S', P, w3.heap.size, HL.out, HPM.out, HSO.out, HPP.out, HPS.out, by rw [← HJ.out]; rfl, K3.out.size, by rw [← HJ.out]; exact OW.out, KF.out⟩
end Go.Proofs.YtolkchkedieppaaGreat
