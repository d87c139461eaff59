/- Currents of package hide: the walk. (Printed by gen_cur.py.) -/
import Derived.Test.YtolkchkedieppaaGreatZTakes
import Derived.Test.YtolkchkedieppaaGreatZTakesE
import Derived.Test.YtolkchkedieppaaGreatZCurA
import Derived.Test.YtolkchkedieppaaGreatZHtB
import Derived.Test.YtolkchkedieppaaGreatZFloat4
set_option linter.unusedVariables false
set_option linter.unusedSimpArgs false
namespace Go.Proofs.YtolkchkedieppaaGreat
open Go.RowKit
attribute [local go_sem ↓] Go.wp_at_zero Go.wp_at_succ
/-- the potentials of all nodes -/
def potQ (n : Nat) (x : Nat → Rat) (i : Nat) : Rat := if i < n - 1 then x i else 0
set_option maxHeartbeats 8000000 in
set_option maxRecDepth 100000 in
theorem currents_any (g0 c0 n : Nat) (W : List (Int × Int)) (x : Nat → Rat) (KM KX KC : Nat) (w : World) (hW : PrR w g0 0 W) (hg : g0 < w.heap.size) (h0 : 0 < W.length) (hl : W.length ≤ 24) (h2 : 2 ≤ n) (hn : n ≤ 25) (hok : WiresOK n W) (hne : ∀ k, k < W.length → wA W k ≠ wB W k) (hcon : ConOK n W) (hht : HtOK n W x KM KX)
  (hXC : KX ≤ KC) (hC2 : 2 ≤ KC) (hC : KC ≤ 100000000) (hcur : CurOK W.length (curQ W (potQ n x)) KC) :
  Calls Tryz.prog 25 #[.int .i64 (n : Nat), .slice (some ⟨g0, 0, none⟩) W.length c0] w fun e w' => ∃ va vk ss, e = .returned (.tuple #[.slice va W.length vk, .int .i64 0]) ∧
   TxtsOf W.length (fun k => curQ W (potQ n x) k * ((uK (curQ W (potQ n x)) W.length : Nat) : Int) / ((gK (curQ W (potQ n x)) (uK (curQ W (potQ n x)) W.length) W.length : Nat) : Int)) ss ∧
   w'.ownsRow w.heap.size 52 1 (.slice va W.length vk) W.length (strL ss W.length) ∧ Below w.heap.size w w' := by
 have HW := Lib.hid hW
 have HOK := Lib.hid hok
 have HNE := Lib.hid hne
 have HC := Lib.hid hcon
 have HT := Lib.hid hht
 have HCU := Lib.hid hcur
 clear hW hok hne hcon hht hcur
 obtain ⟨hx, hxe⟩ : ∃ hx, hx = potQ n x := ⟨_, rfl⟩
 rw [← hxe] at HCU ⊢
 have HXE := Lib.hid hxe
 clear hxe
 obtain ⟨q, hqe⟩ : ∃ q, q = curQ W hx := ⟨_, rfl⟩
 rw [← hqe] at HCU ⊢
 have HQE : Hid (∀ k, q k = hx (wA W k) - hx (wB W k)) := Lib.hid (fun k => by rw [hqe]; rfl)
 clear hqe
 obtain ⟨U, hU⟩ : ∃ U, U = uK q W.length := ⟨_, rfl⟩
 obtain ⟨G, hG⟩ : ∃ G, G = gK q U W.length := ⟨_, rfl⟩
 have HS1 := Lib.hid HCU.out.s1
 have HU1 := Lib.hid HCU.out.u1
 have HS2 := Lib.hid HCU.out.s2
 have HG0 := Lib.hid HCU.out.g0
 have HS3 := Lib.hid HCU.out.s3
 have HDD := Lib.hid HCU.out.d
 rw [← hU] at HS2 HG0 HS3 HDD ⊢
 rw [← hG] at HG0 HS3 HDD ⊢
 have HUE := Lib.hid hU
 have HGE := Lib.hid hG
 clear hU hG HCU
 obtain ⟨i0, hi, hz0, hz1, hz2⟩ := info_parts infoR
 go_enter Tryz.func25, Tryz.ntmps25
 go_wp2_with (first
  | (go_at_call 62; go_loud ((with_reducible refine (heights_any g0 c0 n W x KM KX _ HW.out hg hl h2 hn HOK.out HNE.out HC.out HT.out).mono ?_); rintro e w1 ⟨g, cg, rfl, hgw, hr, hb⟩; have RX := Lib.hid (hr.congr (P' := fun _ => True) (q' := hx) (fun i hi _ => ⟨trivial, by rw [HXE.out]; rfl⟩)); have KB := Lib.hid hb; have HGW := Lib.hid hgw; clear hr hb hgw))
  | (go_at_call 63; (with_reducible refine (int_of 1 (by omega) (by omega) _).mono ?_); rintro e w2 ⟨r2, rfl, hr2, hb2⟩; obtain ⟨s2, a2, n2, c2, rfl, K2⟩ := hr2.shape; clear hr2; have RX := Lib.hid (RX.out.below hb2 (Nat.le_refl _)); have KB := Lib.hid (KB.out.trans (hb2.mono KB.out.size)); clear hb2)
  | (go_at_call 63; (with_reducible refine (int_of 0 (by omega) (by omega) _).mono ?_); rintro e w3 ⟨r3, rfl, hr3, hb3⟩; obtain ⟨s3, a3, n3, c3, rfl, K3⟩ := hr3.shape; clear hr3; have RX := Lib.hid (RX.out.below hb3 (Nat.le_refl _)); have KB := Lib.hid (KB.out.trans (hb3.mono KB.out.size)); have K2 := Lib.hid (K2.out.mono hb3 (Nat.le_refl _)); clear hb3))
 have HG3 := Lib.hid RX.out.lt
 have HW3 := Lib.hid KB.out.size
 have B9 : Hid (BoxI (w3.alloc (.cells #[.bool s2, .slice a2 n2 c2] 112)) w3.heap.size 1 KC) := Lib.hid ⟨s2, a2, n2, c2, own2_new _ _ rfl _ _ _, (K2.out.le hC2).mono (boxes1 _ _) (Nat.le_refl _)⟩
 have K3 := Lib.hid ((K3.out.le hC2).mono (boxes1 w3 (.cells #[.bool s2, .slice a2 n2 c2] 112)) (Nat.le_refl _))
 have CS0 : Hid (CuS w ((w3.alloc (.cells #[.bool s2, .slice a2 n2 c2] 112)).alloc (.cells #[.bool s3, .slice a3 n3 c3] 112)) g n w3.heap.size (w3.heap.size + 1) hx q KC 0 1 0 (.slice none 0 0) []) :=
  Lib.hid ⟨((RX.out.alloc _).alloc _).le hXC, BRow.nil _ _ _ _, B9.out.below (boxes1 _ _), ⟨s3, a3, n3, c3, own2_new _ _ (by simp) _ _ _, K3.out.mono (boxes1 _ _) (Nat.le_refl _)⟩, by omega, Nat.ne_of_lt HG3.out, by have := HG3.out; omega, by simp [ownBlock_blk, blk], by simp [ownBlock_blk, blk], by simp [ownBlock_blk, blk], (KB.out.alloc KB.out.size _).alloc (by simp; have := KB.out.size; omega) _, KB.out.size, by have := KB.out.size; omega⟩
 obtain ⟨b9, hb9⟩ : ∃ b9, b9 = w3.heap.size := ⟨_, rfl⟩
 rw [← hb9] at CS0
 rw [← hb9]
 obtain ⟨b10, hb10⟩ : ∃ b10, b10 = b9 + 1 := ⟨_, rfl⟩
 rw [← hb10] at CS0
 rw [← hb10]
 clear hb9 hb10 B9 K2 K3 RX KB HG3 HW3 HGW
 generalize (w3.alloc (.cells #[.bool s2, .slice a2 n2 c2] 112)).alloc (.cells #[.bool s3, .slice a3 n3 c3] 112) = w4 at *
 have CS0 : Hid (CuS w w4 g n b9 b10 hx q KC 0 ((uK q 0 : Nat) : Int) 0 (.slice none 0 0) []) := CS0
 go_loopw [8, 14, 33] (fun v8 v14 v33 wr => ∃ k : Nat, k ≤ W.length ∧ v33 = .int .i64 (k : Nat) ∧ Hid (∀ z, v14 = .pointer (some ⟨z, 0, none⟩) → z < wr.heap.size) ∧ ∃ va vk xs, v8 = .slice va k vk ∧ Hid (CuS w wr g n b9 b10 hx q KC k ((uK q k : Nat) : Int) 0 (.slice va k vk) xs)) (fun _ _ v33 _ => W.length - (intOf v33).toNat)
 case atStart => exact ⟨0, by omega, rfl, Lib.hid (fun z e => by simp [undef] at e), none, 0, [], rfl, CS0⟩
 case round =>
  clear CS0
  obtain ⟨k, hk, rfl, HV14, va, vk, xs, rfl, CS⟩ := hrel
  by_cases h : k < W.length
  ·have e1 : decide ((k : Int) < ((W.length : Nat) : Int)) = true := by simpa using h
   have e1n : decide (k < W.length) = true := by simpa using h
   have HS1 := Lib.hid (HS1.out k h)
   have HU1 := Lib.hid (HU1.out (k + 1) (by omega))
   focus
    have ix := fun X => ixPr g0 W.length c0 k h X
    have HWR := Lib.hid (HW.out.below CS.out.kb hg)
    have x0 := HWR.out.c0 k h
    have x1 := HWR.out.c1 k h
    simp only [Nat.zero_add] at x0 x1
    obtain ⟨ea, la⟩ := HOK.out.a h
    obtain ⟨eb, lb⟩ := HOK.out.b h
    rw [ea] at x0
    rw [eb] at x1
    have HQK := Lib.hid (HQE.out k)
    obtain ⟨a, hA⟩ : ∃ a, a = wA W k := ⟨_, rfl⟩
    obtain ⟨b, hB⟩ : ∃ b, b = wB W k := ⟨_, rfl⟩
    rw [← hA] at x0 la HQK
    rw [← hB] at x1 lb HQK
    clear ea eb hA hB
    have ixa := fun X => rowIx g n cg a la X
    have ixb := fun X => rowIx g n cg b lb X
    go_upto_region 9 with (fail)
    have HV14 := Lib.hid (fun z e => Nat.lt_of_lt_of_le (HV14.out z e) (boxes1 wr (.cells #[.int .i64 (a : Int), .int .i64 (b : Int)] 40)).size)
    have CS := Lib.hid (CS.out.alloc (.cells #[.int .i64 (a : Int), .int .i64 (b : Int)] 40))
    have y0 : (wr.alloc (.cells #[.int .i64 (a : Int), .int .i64 (b : Int)] 40)).cell? ⟨wr.heap.size, 0, none⟩ = some (.int .i64 (a : Int)) := by simp [go_sem]
    have y1 : (wr.alloc (.cells #[.int .i64 (a : Int), .int .i64 (b : Int)] 40)).cell? ⟨wr.heap.size, 1, none⟩ = some (.int .i64 (b : Int)) := by simp [go_sem]
    have yl : wr.heap.size < (wr.alloc (.cells #[.int .i64 (a : Int), .int .i64 (b : Int)] 40)).heap.size := by simp
    generalize wr.alloc (.cells #[.int .i64 (a : Int), .int .i64 (b : Int)] 40) = w4 at HV14 CS y0 y1 yl ⊢
    obtain ⟨pb, hpb⟩ : ∃ pb, pb = wr.heap.size := ⟨_, rfl⟩
    rw [← hpb] at y0 y1 yl ⊢
    clear hpb x0 x1 ix HWR
    obtain ⟨s1, a1, n1, c1, b1, m1, d1, P1, R1⟩ := CS.out.rx.cell a la
    obtain ⟨s2, a2, n2, c2, b2, m2, d2, P2, R2⟩ := CS.out.rx.cell b lb
    have RA := Lib.hid (R1 trivial)
    have RB := Lib.hid (R2 trivial)
    have keepR : Hid (∀ w', Below w4.heap.size w4 w' → w'.cell? ⟨pb, 0, none⟩ = some (.int .i64 (a : Int)) ∧ w'.cell? ⟨pb, 1, none⟩ = some (.int .i64 (b : Int)) ∧ w'.cell? ⟨g, a * 4, none⟩ = some (.bool s1) ∧ w'.cell? ⟨g, a * 4 + 1, none⟩ = some (.slice a1 n1 c1) ∧ w'.cell? ⟨g, a * 4 + 2, none⟩ = some (.bool false) ∧ w'.cell? ⟨g, a * 4 + 3, none⟩ = some (.slice b1 m1 d1) ∧ w'.cell? ⟨g, b * 4, none⟩ = some (.bool s2) ∧ w'.cell? ⟨g, b * 4 + 1, none⟩ = some (.slice a2 n2 c2) ∧ w'.cell? ⟨g, b * 4 + 2, none⟩ = some (.bool false) ∧ w'.cell? ⟨g, b * 4 + 3, none⟩ = some (.slice b2 m2 d2)) :=
     Lib.hid (fun w' hb => ⟨bel1 hb y0 yl, bel1 hb y1 yl, bel1 hb P1.c0 P1.lt, bel1 hb P1.c1 P1.lt, bel1 hb P1.c2 P1.lt, bel1 hb P1.c3 P1.lt, bel1 hb P2.c0 P2.lt, bel1 hb P2.c1 P2.lt, bel1 hb P2.c2 P2.lt, bel1 hb P2.c3 P2.lt⟩)
    have VL := Lib.hid (Below.refl w4.heap.size w4).drew
    clear y0 y1 yl P1 R1 P2 R2
    have HST : StaysB (fun w' => w'.cell? ⟨pb, 0, none⟩ = some (.int .i64 (a : Int)) ∧ w'.cell? ⟨pb, 1, none⟩ = some (.int .i64 (b : Int)) ∧ w'.cell? ⟨g, a * 4, none⟩ = some (.bool s1) ∧ w'.cell? ⟨g, a * 4 + 1, none⟩ = some (.slice a1 n1 c1) ∧ w'.cell? ⟨g, a * 4 + 2, none⟩ = some (.bool false) ∧ w'.cell? ⟨g, a * 4 + 3, none⟩ = some (.slice b1 m1 d1) ∧ w'.cell? ⟨g, b * 4, none⟩ = some (.bool s2) ∧ w'.cell? ⟨g, b * 4 + 1, none⟩ = some (.slice a2 n2 c2) ∧ w'.cell? ⟨g, b * 4 + 2, none⟩ = some (.bool false) ∧ w'.cell? ⟨g, b * 4 + 3, none⟩ = some (.slice b2 m2 d2)) := fun w1 w2 h hb => ⟨cell_stays h.1 hb, cell_stays h.2.1 hb, cell_stays h.2.2.1 hb, cell_stays h.2.2.2.1 hb, cell_stays h.2.2.2.2.1 hb, cell_stays h.2.2.2.2.2.1 hb, cell_stays h.2.2.2.2.2.2.1 hb, cell_stays h.2.2.2.2.2.2.2.1 hb, cell_stays h.2.2.2.2.2.2.2.2.1 hb, cell_stays h.2.2.2.2.2.2.2.2.2 hb⟩
    refine wp_region_box HST (d := 13) (zs := #[.bool false, .slice none 0 0, .bool false, .slice none 0 0]) (t := 115) (by kernel_rfl) (by kernel_rfl) rfl (fun a w => by kernel_rfl) (fun _ _ _ _ h => h) (keepR.out _ VL.out) (fun hHeld => ?_)
    simp only [List.pop_toArray, List.dropLast_cons_cons, List.dropLast_singleton]
    refine wte_begin [0, 1, 2, 3, 4, 5, 6, 7, 8, 9] ?_
    iterate 10 (refine wte (v := ?_) HST rfl (by kernel_rfl) (fun _ _ _ h => h) (by kernel_rfl) ?_ hHeld ?_; rotate_left; (focus intro w0 hSw; (try dsimp only at hSw); go_simp; all_goals (with_reducible rfl)); simp only [Act.put, List.setIfInBounds_toArray, List.set_cons_zero, List.set_cons_succ])
    refine wte_end ?_
    refine wpAnyE_ready (rs := [10]) (by kernel_rfl) (by simp) (fun we hext => ?_)
    have VL := Lib.hid (bl_trans VL.out hext)
    have hHeld := HST _ _ hHeld hext
    refine AllReadyE.cons rfl (fun Kn hKn => ?_) AllReadyE.nil
    go_simp
    (go_at_call 64; (with_reducible refine (rat_sub _ _ (hx a) (hx b) KC _ (RA.out.mono VL.out (Nat.le_refl _)) (RB.out.mono VL.out (Nat.le_refl _)) (by omega) (by omega)).mono ?_); rintro e w5 ⟨r5, rfl, hr5, hbc⟩; obtain ⟨s5, a5, n5, c5, b5, m5, d5, rfl, K5⟩ := hr5.shape; clear hr5)
    have VL := Lib.hid (bl_trans VL.out hbc)
    go_wp2_with fail
    refine hKn.out _ _ ?_ ?_ (fun hHeld => ?_)
    ·(try dsimp only); exact keepR.out _ VL.out
    ·exact hbc
    clear hKn Kn hext hbc
    (try simp only [Act.put, List.setIfInBounds_toArray, List.set_cons_zero, List.set_cons_succ])
    refine wpAnyE_done (by kernel_rfl) (fun we hext => ?_) _
    intro xb wx hbx hx0 hxz
    have VL := Lib.hid (bl_trans (bl_trans VL.out hext) hbx)
    have K5 := Lib.hid ((K5.out.mono hext (Nat.le_refl _)).mono hbx (Nat.le_refl _))
    have OX := Lib.hid (own4_block hxz)
    have FR := Lib.hid (CS.out.fresh hx0)
    have CS := Lib.hid (CS.out.below VL.out)
    have HV14 := Lib.hid (fun z e => Nat.lt_of_lt_of_le (HV14.out z e) VL.out.size)
    clear hext hbx hx0 hxz keepR RA RB ixa ixb hHeld HST VL
    obtain ⟨x0, x1, x2, x3, xf, xl⟩ := OX.out
    simp only [Act.put, List.setIfInBounds_toArray, List.set_cons_zero, List.set_cons_succ]
    refine lastQ_step rfl (fun Kn hKn => ?_)
    go_simp
    refine hKn.out _ _ ?_
    clear hKn Kn
    (try simp only [Act.put, List.setIfInBounds_toArray, List.set_cons_zero, List.set_cons_succ])
    have CS := Lib.hid (CS.out.far4 OX.out.rd0 FR.out.1 FR.out.2.1 FR.out.2.2.1 FR.out.2.2.2.1 FR.out.2.2.2.2 (.bool s5) (.slice a5 n5 c5) (.bool false) (.slice b5 m5 d5))
    have K5 := Lib.hid (K5.out.at4 (.bool s5) (.slice a5 n5 c5) (.bool false) (.slice b5 m5 d5) OX.out.rd0)
    have HV14 : Hid (∀ z, u14 = .pointer (some ⟨z, 0, none⟩) → z < (st4 wx xb 0 (.bool s5) (.slice a5 n5 c5) (.bool false) (.slice b5 m5 d5)).heap.size) := Lib.hid (fun z e => by rw [size_st4]; exact HV14.out z e)
    have OX := Lib.hid (OX.out.anew (.bool s5) (.slice a5 n5 c5) (.bool false) (.slice b5 m5 d5))
    simp only [Nat.zero_add, st4] at CS K5 HV14
    rw [← HQK.out] at K5
    have K5 := Lib.hid (K5.out.tight HS1.out)
    clear x0 x1 x2 x3 xf xl HS1 HQK
    generalize ((((wx.setCell ⟨xb, 0, none⟩ (.bool s5)).setCell ⟨xb, 1, none⟩ (.slice a5 n5 c5)).setCell ⟨xb, 2, none⟩ (.bool false)).setCell ⟨xb, 3, none⟩ (.slice b5 m5 d5)) = w9 at CS K5 OX HV14 ⊢
    obtain ⟨x0, x1, x2, x3, xf, xl⟩ := OX.out
    have KA := Lib.hid (K5.out.mono (boxes1 w9 (.cells #[.bool s5, .slice a5 n5 c5, .bool false, .slice b5 m5 d5] 115)) (Nat.le_refl _))
    have CA := Lib.hid (CS.out.alloc (.cells #[.bool s5, .slice a5 n5 c5, .bool false, .slice b5 m5 d5] 115))
    have OA := Lib.hid (OX.out.alloc (.cells #[.bool s5, .slice a5 n5 c5, .bool false, .slice b5 m5 d5] 115))
    have HVA := Lib.hid (fun z e => Nat.lt_of_lt_of_le (HV14.out z e) (boxes1 w9 (.cells #[.bool s5, .slice a5 n5 c5, .bool false, .slice b5 m5 d5] 115)).size)
    have HA3 : Hid (w.heap.size ≤ (w9.alloc (.cells #[.bool s5, .slice a5 n5 c5, .bool false, .slice b5 m5 d5] 115)).heap.size) := Lib.hid CA.out.kb.size
    have NEW : Hid (Rd4 (w9.alloc (.cells #[.bool s5, .slice a5 n5 c5, .bool false, .slice b5 m5 d5] 115)) w9.heap.size 0 (.bool s5) (.slice a5 n5 c5) (.bool false) (.slice b5 m5 d5)) := Lib.hid (own4_new w9 _ rfl (.bool s5) (.slice a5 n5 c5) (.bool false) (.slice b5 m5 d5) 115).rd0
    go_upto_region 11 with (first
     | (at_builtin; go_loud (refine wpList_append_kind rfl (.tmp 48) (.tmp 50) 107 rfl w.heap.size 115 i0 (.agg #[.bool false, .slice none 0 0, .bool false, .slice none 0 0]) 4 64 Tryz.underlying107 hi hz0 hz1 hz2 rfl (by decide) (.slice va k vk) k xs rfl CA.out.br.own CA.out.br.kind (noLimb_4 _ _ _ _ _ _ _ _) ⟨w9.heap.size, 0, none⟩ 1 1 [.bool s5, .slice a5 n5 c5, .bool false, .slice b5 m5 d5] rfl rfl (cells4' NEW.out) (one4' _ _ _ _ rfl rfl rfl rfl) (noLimb_4 _ _ _ _ _ _ _ _) (by unfold maxLen; omega) (by omega) HA3.out (by omega) ?_; intro v' w10 hown hgrow hblk hkind; obtain ⟨va', vk', rfl⟩ := own_shape hown; have HGROW := Lib.hid hgrow; have CB := Lib.hid (CA.out.push KA.out rfl hgrow hown hblk hkind); have QX := Lib.hid (rat_keep KA.out CA.out.br.kind hgrow); clear hown hgrow hblk hkind)))
    have OB := Lib.hid (OA.out.grown HGROW.out (Ne.symm FR.out.2.2.2.2))
    have HV14 := Lib.hid (fun z e => Nat.lt_of_lt_of_le (HVA.out z e) HGROW.out.size)
    clear KA CA OA HVA HA3 NEW HGROW CS K5 OX x0 x1 x2 x3 xf xl
    obtain ⟨s6, a6, n6, c6, OU, KU⟩ := CB.out.u.ex
    have KU := Lib.hid KU
    have HGD := Lib.hid (gcd_den (uK q k) (q k))
    have keepR : Hid (∀ w', Below w10.heap.size w10 w' → w'.cell? ⟨b9, 0, none⟩ = some (.bool s6) ∧ w'.cell? ⟨b9, 1, none⟩ = some (.slice a6 n6 c6) ∧ w'.cell? ⟨xb, 0, none⟩ = some (.bool s5) ∧ w'.cell? ⟨xb, 1, none⟩ = some (.slice a5 n5 c5) ∧ w'.cell? ⟨xb, 2, none⟩ = some (.bool false) ∧ w'.cell? ⟨xb, 3, none⟩ = some (.slice b5 m5 d5)) :=
     Lib.hid (fun w' hb => ⟨bel1 hb OU.c0 OU.lt, bel1 hb OU.c1 OU.lt, bel1 hb OB.out.c0 OB.out.lt, bel1 hb OB.out.c1 OB.out.lt, bel1 hb OB.out.c2 OB.out.lt, bel1 hb OB.out.c3 OB.out.lt⟩)
    have VL := Lib.hid (Below.refl w10.heap.size w10).drew
    clear OU
    have HST : StaysB (fun w' => w'.cell? ⟨b9, 0, none⟩ = some (.bool s6) ∧ w'.cell? ⟨b9, 1, none⟩ = some (.slice a6 n6 c6) ∧ w'.cell? ⟨xb, 0, none⟩ = some (.bool s5) ∧ w'.cell? ⟨xb, 1, none⟩ = some (.slice a5 n5 c5) ∧ w'.cell? ⟨xb, 2, none⟩ = some (.bool false) ∧ w'.cell? ⟨xb, 3, none⟩ = some (.slice b5 m5 d5)) := fun w1 w2 h hb => ⟨cell_stays h.1 hb, cell_stays h.2.1 hb, cell_stays h.2.2.1 hb, cell_stays h.2.2.2.1 hb, cell_stays h.2.2.2.2.1 hb, cell_stays h.2.2.2.2.2 hb⟩
    refine wp_region_box2x 12 9 (by kernel_rfl) (fun _ _ _ d _ h => by cases d <;> exact h) HST (d := 14) (d2 := 15) (zs := #[.bool false, .slice none 0 0]) (ty := 112) (by kernel_rfl) (by kernel_rfl) rfl rfl (fun a w => by kernel_rfl) (fun a w => by kernel_rfl) (by kernel_rfl) (fun _ _ _ _ _ h => h) (keepR.out _ VL.out) (fun z e => HV14.out z (by simpa using e)) (by simp only [waitsX, waitsL, wop, List.filter, Region.binds, Nat.reduceAdd, Nat.reduceEqDiff, if_true, if_false, reduceIte, List.push_toArray, List.cons_append, List.nil_append, beq_self_eq_true]; rfl) (fun hHeld => ?_)
    simp only [List.pop_toArray, List.dropLast_cons_cons, List.dropLast_singleton]
    refine wte_begin [0, 2, 3] ?_
    iterate 3 (refine wte (v := ?_) HST rfl (by kernel_rfl) (fun _ _ _ h => h) (by kernel_rfl) ?_ hHeld ?_; rotate_left; (focus intro w0 hSw; (try dsimp only at hSw); go_simp; all_goals (with_reducible rfl)); simp only [Act.put, List.setIfInBounds_toArray, List.set_cons_zero, List.set_cons_succ])
    refine wte_end ?_
    refine wpAnyE_ready (rs := [1]) (by kernel_rfl) (by simp) (fun we hext => ?_)
    have VL := Lib.hid (bl_trans VL.out hext)
    have hHeld := HST _ _ hHeld hext
    refine AllReadyE.cons rfl (fun Kn hKn => ?_) AllReadyE.nil
    go_simp
    (go_at_call 65; (with_reducible refine (rat_under _ (q k) KC _ (QX.out.mono VL.out (Nat.le_refl _))).mono ?_); rintro e w7 ⟨a7, n7, c7, rfl, K7, hbc⟩)
    have VL := Lib.hid (bl_trans VL.out hbc)
    go_wp2_with fail
    refine hKn.out _ _ ?_ ?_ (fun hHeld => ?_)
    ·(try dsimp only); exact keepR.out _ VL.out
    ·exact hbc
    clear hKn Kn hext hbc
    (try simp only [Act.put, List.setIfInBounds_toArray, List.set_cons_zero, List.set_cons_succ])
    refine wpAnyE_ready (rs := [4]) (by kernel_rfl) (by simp) (fun we hext => ?_)
    have VL := Lib.hid (bl_trans VL.out hext)
    have hHeld := HST _ _ hHeld hext
    have K7 := Lib.hid (K7.out.mono hext (Nat.le_refl _))
    refine AllReadyE.cons rfl (fun Kn hKn => ?_) AllReadyE.nil
    go_simp
    (go_at_call 65; (with_reducible refine (rat_under _ (q k) KC _ (QX.out.mono VL.out (Nat.le_refl _))).mono ?_); rintro e w8 ⟨a8, n8, c8, rfl, K8, hbc⟩)
    have K7 := Lib.hid (K7.out.mono hbc (Nat.le_refl _))
    have VL := Lib.hid (bl_trans VL.out hbc)
    go_wp2_with fail
    refine hKn.out _ _ ?_ ?_ (fun hHeld => ?_)
    ·(try dsimp only); exact keepR.out _ VL.out
    ·exact hbc
    clear hKn Kn hext hbc
    (try simp only [Act.put, List.setIfInBounds_toArray, List.set_cons_zero, List.set_cons_succ])
    refine wpAnyE_ready (rs := [5]) (by kernel_rfl) (by simp) (fun we hext => ?_)
    have VL := Lib.hid (bl_trans VL.out hext)
    have hHeld := HST _ _ hHeld hext
    have K7 := Lib.hid (K7.out.mono hext (Nat.le_refl _))
    have K8 := Lib.hid (K8.out.mono hext (Nat.le_refl _))
    refine AllReadyE.cons rfl (fun Kn hKn => ?_) AllReadyE.nil
    go_simp
    (go_at_call 67; (with_reducible refine (int_gcd _ _ ((uK q k : Nat) : Int) (((q k).den : Nat) : Int) KC _ (KU.out.mono VL.out (Nat.le_refl _)) K8.out (by omega)).mono ?_); rintro e w13 ⟨r13, rfl, hr13, hbc⟩; obtain ⟨s13, a13, n13, c13, rfl, K13⟩ := hr13.shape; clear hr13)
    have K7 := Lib.hid (K7.out.mono hbc (Nat.le_refl _))
    have K8 := Lib.hid (K8.out.mono hbc (Nat.le_refl _))
    have VL := Lib.hid (bl_trans VL.out hbc)
    go_wp2_with fail
    refine hKn.out _ _ ?_ ?_ (fun hHeld => ?_)
    ·(try dsimp only); exact keepR.out _ VL.out
    ·exact hbc
    clear hKn Kn hext hbc
    (try simp only [Act.put, List.setIfInBounds_toArray, List.set_cons_zero, List.set_cons_succ])
    refine wpAnyE_ready (rs := [6]) (by kernel_rfl) (by simp) (fun we hext => ?_)
    have VL := Lib.hid (bl_trans VL.out hext)
    have hHeld := HST _ _ hHeld hext
    have K7 := Lib.hid (K7.out.mono hext (Nat.le_refl _))
    have K13 := Lib.hid (K13.out.mono hext (Nat.le_refl _))
    refine AllReadyE.cons rfl (fun Kn hKn => ?_) AllReadyE.nil
    go_simp
    (go_at_call 66; (with_reducible refine (quo_exact _ _ (((q k).den : Nat) : Int) _ KC _ K7.out K13.out HGD.out.1 HGD.out.2 (by omega)).mono ?_); rintro e w14 ⟨r14, r15, rfl, hr14, hr15, hbc⟩; obtain ⟨s14, a14, n14, c14, rfl, K14⟩ := hr14.shape; obtain ⟨s15, a15, n15, c15, rfl, K15⟩ := hr15.shape; clear hr14 hr15)
    have K7 := Lib.hid (K7.out.mono hbc (Nat.le_refl _))
    have K13 := Lib.hid (K13.out.mono hbc (Nat.le_refl _))
    have VL := Lib.hid (bl_trans VL.out hbc)
    go_wp2_with fail
    refine hKn.out _ _ ?_ ?_ (fun hHeld => ?_)
    ·(try dsimp only); exact keepR.out _ VL.out
    ·exact hbc
    clear hKn Kn hext hbc
    (try simp only [Act.put, List.setIfInBounds_toArray, List.set_cons_zero, List.set_cons_succ])
    refine wpAnyE_take HST (i := 7) (v := ?_) rfl (by kernel_rfl) (by kernel_rfl) (by kernel_rfl) (fun _ _ _ h => h) (Or.inl ⟨by rfl, ?_⟩) hHeld ?_
    rotate_left
    ·(intro w0 hSw; (try dsimp only at hSw); go_simp; all_goals (with_reducible rfl))
    simp only [List.getElem_toArray, List.getElem_cons_succ, List.getElem_cons_zero, Act.put, List.setIfInBounds_toArray, List.set_cons_zero, List.set_cons_succ]
    refine wpAnyE_take HST (i := 8) (v := ?_) rfl (by kernel_rfl) (by kernel_rfl) (by kernel_rfl) (fun _ _ _ h => h) (Or.inl ⟨by rfl, ?_⟩) hHeld ?_
    rotate_left
    ·(intro w0 hSw; (try dsimp only at hSw); go_simp; all_goals (with_reducible rfl))
    simp only [List.getElem_toArray, List.getElem_cons_succ, List.getElem_cons_zero, Act.put, List.setIfInBounds_toArray, List.set_cons_zero, List.set_cons_succ]
    refine wpAnyE_take HST (i := 9) (v := ?_) rfl (by kernel_rfl) (by kernel_rfl) (by kernel_rfl) (fun _ _ _ h => h) (Or.inl ⟨by rfl, ?_⟩) hHeld ?_
    rotate_left
    ·(intro w0 hSw; (try dsimp only at hSw); go_simp; all_goals (with_reducible rfl))
    simp only [List.getElem_toArray, List.getElem_cons_succ, List.getElem_cons_zero, Act.put, List.setIfInBounds_toArray, List.set_cons_zero, List.set_cons_succ]
    refine wpAnyE_done (by kernel_rfl) (fun we hext => ?_) _
    intro x wx hbx hx0 hxz y wy hby hy0 hyz hne
    have hxy := hne x (by rfl)
    have hyx := Ne.symm hxy
    have FX := Lib.hid (CB.out.fresh hx0)
    have FY := Lib.hid (CB.out.fresh hy0)
    have VL := Lib.hid (bl_trans (bl_trans (bl_trans VL.out hext) hbx) hby)
    have K14 := Lib.hid (((K14.out.mono hext (Nat.le_refl _)).mono hbx (Nat.le_refl _)).mono hby (Nat.le_refl _))
    have K15 := Lib.hid (((K15.out.mono hext (Nat.le_refl _)).mono hbx (Nat.le_refl _)).mono hby (Nat.le_refl _))
    have OX2 := Lib.hid ((own2_of_block hxz).below hby (own2_of_block hxz).lt)
    have OY2 := Lib.hid (own2_of_block hyz)
    have CB := Lib.hid (CB.out.below VL.out)
    obtain ⟨x0, x1, xf, xl⟩ := OX2.out
    obtain ⟨z0, z1, zf, zl⟩ := OY2.out
    clear hne hext hbx hby hxz hyz hx0 hy0 keepR hHeld HST VL OB QX KU HGD HV14
    simp only [Act.put, List.setIfInBounds_toArray, List.set_cons_zero, List.set_cons_succ]
    refine lastQ_step rfl (fun Kn hKn => ?_)
    go_simp
    refine hKn.out _ _ ?_
    clear hKn Kn
    (try simp only [Act.put, List.setIfInBounds_toArray, List.set_cons_zero, List.set_cons_succ])
    refine lastQ_step rfl (fun Kn hKn => ?_)
    go_simp
    refine hKn.out _ _ ?_
    clear hKn Kn
    (try simp only [Act.put, List.setIfInBounds_toArray, List.set_cons_zero, List.set_cons_succ])
    have BX := Lib.hid (BoxI.zero OX2.out)
    have BY := Lib.hid (BoxI.zero OY2.out)
    have K15 := Lib.hid (K15.out.st2 BX.out (.bool s14) (.slice a14 n14 c14))
    have CB := Lib.hid (CB.out.far2 BX.out FX.out.1 FX.out.2.1 FX.out.2.2.1 FX.out.2.2.2.1 FX.out.2.2.2.2 (.bool s14) (.slice a14 n14 c14))
    have BY := Lib.hid (BY.out.far2 BX.out hxy (.bool s14) (.slice a14 n14 c14))
    have BX := Lib.hid (BX.out.set K14.out)
    have CB := Lib.hid (CB.out.far2 BY.out FY.out.1 FY.out.2.1 FY.out.2.2.1 FY.out.2.2.2.1 FY.out.2.2.2.2 (.bool s15) (.slice a15 n15 c15))
    have BX := Lib.hid (BX.out.far2 BY.out hyx (.bool s15) (.slice a15 n15 c15))
    have HV14 := Lib.hid BX.out.lt
    simp only [st2] at CB BX HV14
    clear K14 K15 BY OX2 OY2 x0 x1 xf xl z0 z1 zf zl FX FY
    generalize ((((wy.setCell ⟨x, 0, none⟩ (.bool s14)).setCell ⟨x, 1, none⟩ (.slice a14 n14 c14)).setCell ⟨y, 0, none⟩ (.bool s15)).setCell ⟨y, 1, none⟩ (.slice a15 n15 c15)) = w20 at CB BX HV14 ⊢
    obtain ⟨s20, a20, n20, c20, OW, KW⟩ := BX.out.ex
    obtain ⟨s21, a21, n21, c21, OU, KU⟩ := CB.out.u.ex
    obtain ⟨x0, x1, xf, xl⟩ := OW
    obtain ⟨y0, y1, yf, yl⟩ := OU
    have KW := Lib.hid KW
    have KU := Lib.hid KU
    go_upto_region 13 with (first
     | (go_at_call 68; (with_reducible refine (int_mul _ _ _ _ KC KC _ KU.out KW.out (by omega)).mono ?_); rintro e w22 ⟨r22, rfl, hr22, hb22⟩; obtain ⟨s22, a22, n22, c22, rfl, K22⟩ := hr22.shape; clear hr22; have CB := Lib.hid (CB.out.below hb22); have HV14 := Lib.hid (Nat.lt_of_lt_of_le HV14.out hb22.size); clear hb22 y0 y1 yf yl; obtain ⟨s23, a23, n23, c23, OU, -⟩ := CB.out.u.ex; obtain ⟨y0, y1, yf, yl⟩ := OU))
    have K22 := K22.out
    rw [uK_succ] at K22
    have CB := Lib.hid (CB.out.setU (K22.tight (by rw [Int.natAbs_natCast]; exact HU1.out)))
    have HV14 := Lib.hid (show x < (st2 w22 b9 (.bool s22) (.slice a22 n22 c22)).heap.size by rw [size_st2]; exact HV14.out)
    simp only [st2] at CB HV14
    clear K22 x0 x1 xf xl y0 y1 yf yl
    go_wp2
    go_roundw
    case rel => exact ⟨k + 1, by omega, by go_num, Lib.hid (fun z e => by cases e; exact HV14.out), va', vk', _, rfl, CB⟩
    case measure => simp [intOf]; omega
  ·obtain rfl : k = W.length := by omega
   have e1 : decide (((W.length : Nat) : Int) < ((W.length : Nat) : Int)) = false := by simp
   obtain ⟨gl, cl, hve, hbl, RL⟩ := CS.out.br.row h0
   injection hve with q1 q2 q3
   subst q1
   subst q3
   have HU := HUE.out
   have CL : Hid (CuL w wr gl W.length b9 b10 (fun j => if j < 0 then q j * ((U : Nat) : Int) else q j) KC ((U : Nat) : Int) ((gK q U 0 : Nat) : Int)) :=
    Lib.hid ⟨RL.congr (fun j hj _ => ⟨trivial, by simp⟩), by rw [HU]; exact CS.out.u, CS.out.o, CS.out.ne, fun e => CS.out.v9 (by rw [ownBlock_blk]; simp [blk, e]), fun e => CS.out.v10 (by rw [ownBlock_blk]; simp [blk, e]), hbl, CS.out.kb, CS.out.h9, CS.out.h10⟩
   clear RL CS hbl HU HV14
   go_wp2
   go_loopw [68] (fun v68 wr => ∃ i : Nat, i ≤ W.length ∧ v68 = .int .i64 (i : Nat) ∧ Hid (CuL w wr gl W.length b9 b10 (fun j => if j < i then q j * ((U : Nat) : Int) else q j) KC ((U : Nat) : Int) ((gK q U i : Nat) : Int))) (fun v68 _ => W.length - (intOf v68).toNat)
   case atStart => exact ⟨0, by omega, rfl, CL⟩
   case round =>
    clear CL
    obtain ⟨i, hil, rfl, CL⟩ := hrel
    by_cases h : i < W.length
    ·have e1 : decide ((i : Int) < ((W.length : Nat) : Int)) = true := by simpa using h
     have e1n : decide (i < W.length) = true := by simpa using h
     focus
      have ixl := fun X => rowIx gl W.length vk i h X
      obtain ⟨s1, a1, n1, c1, b1, m1, d1, P1, R1⟩ := CL.out.rl.cell i h
      obtain ⟨p0, p1, p2, p3, pl⟩ := P1
      have QX : Hid (RatIs wr (.agg #[.bool s1, .slice a1 n1 c1, .bool false, .slice b1 m1 d1]) (q i) KC) := Lib.hid (by have := R1 trivial; simpa using this)
      clear R1
      go_upto_region 17 with (fail)
      have QX := Lib.hid (QX.out.mono (boxes1 wr (.cells #[.bool s1, .slice a1 n1 c1, .bool false, .slice b1 m1 d1] 115)) (Nat.le_refl _))
      have CL := Lib.hid (CL.out.alloc (.cells #[.bool s1, .slice a1 n1 c1, .bool false, .slice b1 m1 d1] 115))
      have OX := Lib.hid (own4_new wr _ rfl (.bool s1) (.slice a1 n1 c1) (.bool false) (.slice b1 m1 d1) 115)
      obtain ⟨xb, hxb⟩ : ∃ xb, xb = wr.heap.size := ⟨_, rfl⟩
      rw [← hxb] at OX ⊢
      clear hxb p0 p1 p2 p3 pl
      generalize wr.alloc (.cells #[.bool s1, .slice a1 n1 c1, .bool false, .slice b1 m1 d1] 115) = w4 at QX CL OX ⊢
      obtain ⟨s6, a6, n6, c6, OU, KU⟩ := CL.out.u.ex
      have KU := Lib.hid KU
      have keepR : Hid (∀ w', Below w4.heap.size w4 w' → w'.cell? ⟨xb, 0, none⟩ = some (.bool s1) ∧ w'.cell? ⟨xb, 1, none⟩ = some (.slice a1 n1 c1) ∧ w'.cell? ⟨xb, 2, none⟩ = some (.bool false) ∧ w'.cell? ⟨xb, 3, none⟩ = some (.slice b1 m1 d1) ∧ w'.cell? ⟨b9, 0, none⟩ = some (.bool s6) ∧ w'.cell? ⟨b9, 1, none⟩ = some (.slice a6 n6 c6)) :=
       Lib.hid (fun w' hb => ⟨bel1 hb OX.out.c0 OX.out.lt, bel1 hb OX.out.c1 OX.out.lt, bel1 hb OX.out.c2 OX.out.lt, bel1 hb OX.out.c3 OX.out.lt, bel1 hb OU.c0 OU.lt, bel1 hb OU.c1 OU.lt⟩)
      have VL := Lib.hid (Below.refl w4.heap.size w4).drew
      clear OU
      refine wp_region_last (S := fun w' => w'.cell? ⟨xb, 0, none⟩ = some (.bool s1) ∧ w'.cell? ⟨xb, 1, none⟩ = some (.slice a1 n1 c1) ∧ w'.cell? ⟨xb, 2, none⟩ = some (.bool false) ∧ w'.cell? ⟨xb, 3, none⟩ = some (.slice b1 m1 d1) ∧ w'.cell? ⟨b9, 0, none⟩ = some (.bool s6) ∧ w'.cell? ⟨b9, 1, none⟩ = some (.slice a6 n6 c6)) (by kernel_rfl) (by kernel_rfl) (keepR.out _ VL.out) (fun hHeld => ?_)
      simp only [List.pop_toArray, List.dropLast_cons_cons, List.dropLast_singleton]
      refine wtk_begin [0, 1, 2, 3] ?_
      iterate 4 (refine wtk (v := ?_) rfl (by kernel_rfl) (fun _ _ _ h => h) (by kernel_rfl) ?_ (by assumption) ?_; rotate_left; (focus intro w0 hSw; (try dsimp only at hSw); go_simp; all_goals (with_reducible rfl)); simp only [Act.put, List.setIfInBounds_toArray, List.set_cons_zero, List.set_cons_succ])
      refine wtk_end ?_
      refine wpAnyH_ready (rs := [4]) (by kernel_rfl) (by simp) ?_
      refine AllReadyH.cons rfl (fun Kn hKn => ?_) AllReadyH.nil
      go_simp
      (go_at_call 70; (with_reducible refine (rat_fromInt _ ((U : Nat) : Int) KC _ (KU.out.mono VL.out (Nat.le_refl _)) hC2).mono ?_); rintro e w7 ⟨r7, rfl, hr7, hb7⟩; obtain ⟨s7, a7, n7, c7, b7, m7, d7, rfl, K7⟩ := hr7.shape; clear hr7; have VL := Lib.hid (VL.out.trans (hb7.mono VL.out.size)))
      go_wp2_with fail
      refine hKn.out _ _ ?_ (fun hHeld => ?_)
      ·(try dsimp only); exact keepR.out _ VL.out
      clear hKn Kn
      (try simp only [Act.put, List.setIfInBounds_toArray, List.set_cons_zero, List.set_cons_succ])
      refine wpAnyH_ready (rs := [5]) (by kernel_rfl) (by simp) ?_
      refine AllReadyH.cons rfl (fun Kn hKn => ?_) AllReadyH.nil
      go_simp
      (go_at_call 69; (with_reducible refine (rat_mul _ _ (q i) ((((U : Nat) : Int) : Int) : Rat) KC _ (QX.out.mono VL.out (Nat.le_refl _)) K7.out (by omega) (by omega)).mono ?_); rintro e w8 ⟨r8, rfl, hr8, hb8⟩; obtain ⟨s8, a8, n8, c8, b8, m8, d8, rfl, K8⟩ := hr8.shape; clear hr8; have VL := Lib.hid (VL.out.trans (hb8.mono VL.out.size)))
      go_wp2_with fail
      refine hKn.out _ _ ?_ (fun hHeld => ?_)
      ·(try dsimp only); exact keepR.out _ VL.out
      clear hKn Kn
      (try simp only [Act.put, List.setIfInBounds_toArray, List.set_cons_zero, List.set_cons_succ])
      refine wtk_begin [6] ?_
      (refine wtk (v := ?_) rfl (by kernel_rfl) (fun _ _ _ h => h) (by kernel_rfl) ?_ (by assumption) ?_; rotate_left; (focus intro w0 hSw; (try dsimp only at hSw); go_simp; all_goals (with_reducible rfl)); simp only [Act.put, List.setIfInBounds_toArray, List.set_cons_zero, List.set_cons_succ])
      refine wtk_end ?_
      have CL := Lib.hid (CL.out.below VL.out)
      obtain ⟨s9, a9, n9, c9, b9', m9, d9, RR, -⟩ := CL.out.rl.cell i h
      have RR := Lib.hid RR
      obtain ⟨z0, z1, z2, z3, zl⟩ := RR.out
      have zf := CL.out.rl.f
      refine wpAnyH_done (by kernel_rfl) ?_ _
      refine lastQ_step rfl (fun Kn hKn => ?_)
      go_simp
      refine hKn.out _ _ ?_
      clear hKn Kn
      (try simp only [Act.put, List.setIfInBounds_toArray, List.set_cons_zero, List.set_cons_succ])
      have CL := Lib.hid ((CL.out.set h (K8.out.tight (HS2.out i h))).congr (q' := fun j => if j < i + 1 then q j * ((U : Nat) : Int) else q j) (fun j hj => by
       unfold updQ; dsimp only
       by_cases e : j = i
       ·rw [if_pos e, if_pos (by omega), e]
       ·rw [if_neg e]
        by_cases e2 : j < i
        ·rw [if_pos e2, if_pos (by omega)]
        ·rw [if_neg e2, if_neg (by omega)]))
      simp only [st4] at CL
      clear K8 K7 QX KU keepR VL hHeld RR z0 z1 z2 z3 zl zf OX
      generalize ((((w8.setCell ⟨gl, i * 4, none⟩ (.bool s8)).setCell ⟨gl, i * 4 + 1, none⟩ (.slice a8 n8 c8)).setCell ⟨gl, i * 4 + 2, none⟩ (.bool false)).setCell ⟨gl, i * 4 + 3, none⟩ (.slice b8 m8 d8)) = w9 at CL ⊢
      obtain ⟨s8, a8, n8, c8, b8, m8, d8, P8, R8⟩ := CL.out.rl.cell i h
      have QL : Hid (RatIs w9 (.agg #[.bool s8, .slice a8 n8 c8, .bool false, .slice b8 m8 d8]) (q i * ((U : Nat) : Int)) KC) := Lib.hid (by have := R8 trivial; simpa using this)
      obtain ⟨s6, a6, n6, c6, OG, KG⟩ := CL.out.o.ex
      have KG := Lib.hid KG
      have keepR : Hid (∀ w', Below w9.heap.size w9 w' → w'.cell? ⟨b10, 0, none⟩ = some (.bool s6) ∧ w'.cell? ⟨b10, 1, none⟩ = some (.slice a6 n6 c6) ∧ w'.cell? ⟨gl, i * 4, none⟩ = some (.bool s8) ∧ w'.cell? ⟨gl, i * 4 + 1, none⟩ = some (.slice a8 n8 c8) ∧ w'.cell? ⟨gl, i * 4 + 2, none⟩ = some (.bool false) ∧ w'.cell? ⟨gl, i * 4 + 3, none⟩ = some (.slice b8 m8 d8)) :=
       Lib.hid (fun w' hb => ⟨bel1 hb OG.c0 OG.lt, bel1 hb OG.c1 OG.lt, bel1 hb P8.c0 P8.lt, bel1 hb P8.c1 P8.lt, bel1 hb P8.c2 P8.lt, bel1 hb P8.c3 P8.lt⟩)
      have VL := Lib.hid (Below.refl w9.heap.size w9).drew
      clear OG P8 R8
      go_wp2
      refine wp_region_last (S := fun w' => w'.cell? ⟨b10, 0, none⟩ = some (.bool s6) ∧ w'.cell? ⟨b10, 1, none⟩ = some (.slice a6 n6 c6) ∧ w'.cell? ⟨gl, i * 4, none⟩ = some (.bool s8) ∧ w'.cell? ⟨gl, i * 4 + 1, none⟩ = some (.slice a8 n8 c8) ∧ w'.cell? ⟨gl, i * 4 + 2, none⟩ = some (.bool false) ∧ w'.cell? ⟨gl, i * 4 + 3, none⟩ = some (.slice b8 m8 d8)) (by kernel_rfl) (by kernel_rfl) (keepR.out _ VL.out) (fun hHeld => ?_)
      simp only [List.pop_toArray, List.dropLast_cons_cons, List.dropLast_singleton]
      refine wtk_begin [0, 1, 2, 3, 4] ?_
      iterate 5 (refine wtk (v := ?_) rfl (by kernel_rfl) (fun _ _ _ h => h) (by kernel_rfl) ?_ (by assumption) ?_; rotate_left; (focus intro w0 hSw; (try dsimp only at hSw); go_simp; all_goals (with_reducible rfl)); simp only [Act.put, List.setIfInBounds_toArray, List.set_cons_zero, List.set_cons_succ])
      refine wtk_end ?_
      refine wpAnyH_ready (rs := [5]) (by kernel_rfl) (by simp) ?_
      refine AllReadyH.cons rfl (fun Kn hKn => ?_) AllReadyH.nil
      go_simp
      (go_at_call 71; (with_reducible refine (rat_over _ (q i * ((U : Nat) : Int)) KC _ (QL.out.mono VL.out (Nat.le_refl _))).mono ?_); rintro e w10 ⟨s10, a10, n10, c10, rfl, K10, hb10⟩; have VL := Lib.hid (VL.out.trans (hb10.mono VL.out.size)))
      go_wp2_with fail
      refine hKn.out _ _ ?_ (fun hHeld => ?_)
      ·(try dsimp only); exact keepR.out _ VL.out
      clear hKn Kn
      (try simp only [Act.put, List.setIfInBounds_toArray, List.set_cons_zero, List.set_cons_succ])
      refine wpAnyH_ready (rs := [6]) (by kernel_rfl) (by simp) ?_
      refine AllReadyH.cons rfl (fun Kn hKn => ?_) AllReadyH.nil
      go_simp
      (go_at_call 67; (with_reducible refine (int_gcd _ _ ((gK q U i : Nat) : Int) (q i * ((U : Nat) : Int)).num KC _ (KG.out.mono VL.out (Nat.le_refl _)) K10.out (by omega)).mono ?_); rintro e w11 ⟨r11, rfl, hr11, hb11⟩; obtain ⟨s11, a11, n11, c11, rfl, K11⟩ := hr11.shape; clear hr11; have VL := Lib.hid (VL.out.trans (hb11.mono VL.out.size)))
      go_wp2_with fail
      refine hKn.out _ _ ?_ (fun hHeld => ?_)
      ·(try dsimp only); exact keepR.out _ VL.out
      clear hKn Kn
      (try simp only [Act.put, List.setIfInBounds_toArray, List.set_cons_zero, List.set_cons_succ])
      have CL := Lib.hid (CL.out.below VL.out)
      obtain ⟨s12, a12, n12, c12, OO, -⟩ := CL.out.o.ex
      have OO := Lib.hid OO
      obtain ⟨z0, z1, zf, zl⟩ := OO.out
      refine wpAnyH_done (by kernel_rfl) ?_ _
      refine lastQ_step rfl (fun Kn hKn => ?_)
      go_simp
      refine hKn.out _ _ ?_
      clear hKn Kn
      (try simp only [Act.put, List.setIfInBounds_toArray, List.set_cons_zero, List.set_cons_succ])
      have K11 := K11.out
      rw [gK_succ] at K11
      have CL := Lib.hid (CL.out.setO K11)
      simp only [st2] at CL
      clear K11 K10 QL KG keepR VL hHeld OO z0 z1 zf zl
      go_wp2
      go_roundw
      case rel => exact ⟨i + 1, by omega, by go_num, CL⟩
      case measure => simp [intOf]; omega
    ·obtain rfl : i = W.length := by omega
     have e1 : decide (((W.length : Nat) : Int) < ((W.length : Nat) : Int)) = false := by simp
     have CL : Hid (CuL w wr gl W.length b9 b10 (fun j => if j < 0 then q j * ((U : Nat) : Int) / ((G : Nat) : Int) else q j * ((U : Nat) : Int)) KC ((U : Nat) : Int) ((G : Nat) : Int)) := by
      rw [HGE.out]
      exact Lib.hid (CL.out.congr (fun j hj => by simp [hj]))
     go_wp2
     go_loopw [90] (fun v90 wr => ∃ i : Nat, i ≤ W.length ∧ v90 = .int .i64 (i : Nat) ∧ Hid (CuL w wr gl W.length b9 b10 (fun j => if j < i then q j * ((U : Nat) : Int) / ((G : Nat) : Int) else q j * ((U : Nat) : Int)) KC ((U : Nat) : Int) ((G : Nat) : Int))) (fun v90 _ => W.length - (intOf v90).toNat)
     case atStart => exact ⟨0, by omega, rfl, CL⟩
     case round =>
      clear CL
      obtain ⟨i, hil, rfl, CL⟩ := hrel
      by_cases h : i < W.length
      ·have e1 : decide ((i : Int) < ((W.length : Nat) : Int)) = true := by simpa using h
       have e1n : decide (i < W.length) = true := by simpa using h
       have HGP : Hid (0 < (((G : Nat) : Int) : Rat).num) := Lib.hid (by rw [Rat.num_intCast]; have := HG0.out; omega)
       have ixl := fun X => rowIx gl W.length vk i h X
       obtain ⟨s1, a1, n1, c1, b1, m1, d1, P1, R1⟩ := CL.out.rl.cell i h
       obtain ⟨p0, p1, p2, p3, pl⟩ := P1
       have QX : Hid (RatIs wr (.agg #[.bool s1, .slice a1 n1 c1, .bool false, .slice b1 m1 d1]) (q i * ((U : Nat) : Int)) KC) := Lib.hid (by have := R1 trivial; simpa using this)
       clear R1
       go_upto_region 23 with (fail)
       have QX := Lib.hid (QX.out.mono (boxes1 wr (.cells #[.bool s1, .slice a1 n1 c1, .bool false, .slice b1 m1 d1] 115)) (Nat.le_refl _))
       have CL := Lib.hid (CL.out.alloc (.cells #[.bool s1, .slice a1 n1 c1, .bool false, .slice b1 m1 d1] 115))
       have OX := Lib.hid (own4_new wr _ rfl (.bool s1) (.slice a1 n1 c1) (.bool false) (.slice b1 m1 d1) 115)
       obtain ⟨xb, hxb⟩ : ∃ xb, xb = wr.heap.size := ⟨_, rfl⟩
       rw [← hxb] at OX ⊢
       clear hxb p0 p1 p2 p3 pl
       generalize wr.alloc (.cells #[.bool s1, .slice a1 n1 c1, .bool false, .slice b1 m1 d1] 115) = w4 at QX CL OX ⊢
       obtain ⟨s6, a6, n6, c6, OU, KU⟩ := CL.out.o.ex
       have KU := Lib.hid KU
       have keepR : Hid (∀ w', Below w4.heap.size w4 w' → w'.cell? ⟨xb, 0, none⟩ = some (.bool s1) ∧ w'.cell? ⟨xb, 1, none⟩ = some (.slice a1 n1 c1) ∧ w'.cell? ⟨xb, 2, none⟩ = some (.bool false) ∧ w'.cell? ⟨xb, 3, none⟩ = some (.slice b1 m1 d1) ∧ w'.cell? ⟨b10, 0, none⟩ = some (.bool s6) ∧ w'.cell? ⟨b10, 1, none⟩ = some (.slice a6 n6 c6)) :=
        Lib.hid (fun w' hb => ⟨bel1 hb OX.out.c0 OX.out.lt, bel1 hb OX.out.c1 OX.out.lt, bel1 hb OX.out.c2 OX.out.lt, bel1 hb OX.out.c3 OX.out.lt, bel1 hb OU.c0 OU.lt, bel1 hb OU.c1 OU.lt⟩)
       have VL := Lib.hid (Below.refl w4.heap.size w4).drew
       clear OU
       refine wp_region_last (S := fun w' => w'.cell? ⟨xb, 0, none⟩ = some (.bool s1) ∧ w'.cell? ⟨xb, 1, none⟩ = some (.slice a1 n1 c1) ∧ w'.cell? ⟨xb, 2, none⟩ = some (.bool false) ∧ w'.cell? ⟨xb, 3, none⟩ = some (.slice b1 m1 d1) ∧ w'.cell? ⟨b10, 0, none⟩ = some (.bool s6) ∧ w'.cell? ⟨b10, 1, none⟩ = some (.slice a6 n6 c6)) (by kernel_rfl) (by kernel_rfl) (keepR.out _ VL.out) (fun hHeld => ?_)
       simp only [List.pop_toArray, List.dropLast_cons_cons, List.dropLast_singleton]
       refine wtk_begin [0, 1, 2, 3] ?_
       iterate 4 (refine wtk (v := ?_) rfl (by kernel_rfl) (fun _ _ _ h => h) (by kernel_rfl) ?_ (by assumption) ?_; rotate_left; (focus intro w0 hSw; (try dsimp only at hSw); go_simp; all_goals (with_reducible rfl)); simp only [Act.put, List.setIfInBounds_toArray, List.set_cons_zero, List.set_cons_succ])
       refine wtk_end ?_
       refine wpAnyH_ready (rs := [4]) (by kernel_rfl) (by simp) ?_
       refine AllReadyH.cons rfl (fun Kn hKn => ?_) AllReadyH.nil
       go_simp
       (go_at_call 70; (with_reducible refine (rat_fromInt _ ((G : Nat) : Int) KC _ (KU.out.mono VL.out (Nat.le_refl _)) hC2).mono ?_); rintro e w7 ⟨r7, rfl, hr7, hb7⟩; obtain ⟨s7, a7, n7, c7, b7, m7, d7, rfl, K7⟩ := hr7.shape; clear hr7; have VL := Lib.hid (VL.out.trans (hb7.mono VL.out.size)))
       go_wp2_with fail
       refine hKn.out _ _ ?_ (fun hHeld => ?_)
       ·(try dsimp only); exact keepR.out _ VL.out
       clear hKn Kn
       (try simp only [Act.put, List.setIfInBounds_toArray, List.set_cons_zero, List.set_cons_succ])
       refine wpAnyH_ready (rs := [5]) (by kernel_rfl) (by simp) ?_
       refine AllReadyH.cons rfl (fun Kn hKn => ?_) AllReadyH.nil
       go_simp
       (go_at_call 72; (with_reducible refine (rat_div _ _ (q i * ((U : Nat) : Int)) ((((G : Nat) : Int) : Int) : Rat) KC _ (QX.out.mono VL.out (Nat.le_refl _)) K7.out HGP.out (by omega) (by omega)).mono ?_); rintro e w8 ⟨r8, rfl, hr8, hb8⟩; obtain ⟨s8, a8, n8, c8, b8, m8, d8, rfl, K8⟩ := hr8.shape; clear hr8; have VL := Lib.hid (VL.out.trans (hb8.mono VL.out.size)))
       go_wp2_with fail
       refine hKn.out _ _ ?_ (fun hHeld => ?_)
       ·(try dsimp only); exact keepR.out _ VL.out
       clear hKn Kn
       (try simp only [Act.put, List.setIfInBounds_toArray, List.set_cons_zero, List.set_cons_succ])
       refine wtk_begin [6] ?_
       (refine wtk (v := ?_) rfl (by kernel_rfl) (fun _ _ _ h => h) (by kernel_rfl) ?_ (by assumption) ?_; rotate_left; (focus intro w0 hSw; (try dsimp only at hSw); go_simp; all_goals (with_reducible rfl)); simp only [Act.put, List.setIfInBounds_toArray, List.set_cons_zero, List.set_cons_succ])
       refine wtk_end ?_
       have CL := Lib.hid (CL.out.below VL.out)
       obtain ⟨s9, a9, n9, c9, b9', m9, d9, RR, -⟩ := CL.out.rl.cell i h
       have RR := Lib.hid RR
       obtain ⟨z0, z1, z2, z3, zl⟩ := RR.out
       have zf := CL.out.rl.f
       refine wpAnyH_done (by kernel_rfl) ?_ _
       refine lastQ_step rfl (fun Kn hKn => ?_)
       go_simp
       refine hKn.out _ _ ?_
       clear hKn Kn
       (try simp only [Act.put, List.setIfInBounds_toArray, List.set_cons_zero, List.set_cons_succ])
       have CL := Lib.hid ((CL.out.set h (K8.out.tight (HS3.out i h))).congr (q' := fun j => if j < i + 1 then q j * ((U : Nat) : Int) / ((G : Nat) : Int) else q j * ((U : Nat) : Int)) (fun j hj => by
        unfold updQ; dsimp only
        by_cases e : j = i
        ·rw [if_pos e, if_pos (by omega), e]
        ·rw [if_neg e]
         by_cases e2 : j < i
         ·rw [if_pos e2, if_pos (by omega)]
         ·rw [if_neg e2, if_neg (by omega)]))
       simp only [st4] at CL
       clear K8 K7 QX KU keepR VL hHeld RR z0 z1 z2 z3 zl zf OX
       go_wp2
       go_roundw
       case rel => exact ⟨i + 1, by omega, by go_num, CL⟩
       case measure => simp [intOf]; omega
      ·obtain rfl : i = W.length := by omega
       have e1 : decide (((W.length : Nat) : Int) < ((W.length : Nat) : Int)) = false := by simp
       have HR := Lib.hid (RowP.rats (CL.out.rl.congr (P' := fun _ => True) (q' := fun j => q j * ((U : Nat) : Int) / ((G : Nat) : Int)) (fun j hj _ => ⟨trivial, by simp [hj]⟩)))
       have KW := Lib.hid CL.out.kb
       go_wp2_with (first
        | (go_at_call 73; go_loud ((with_reducible refine (nums_any gl W.length vk (fun j => q j * ((U : Nat) : Int) / ((G : Nat) : Int)) KC _ HR.out (by omega) (by omega) HDD.out).mono ?_); rintro e w30 ⟨va, vq, ss, rfl, hss, hos, hb⟩; have HSS := Lib.hid hss; have HOS := Lib.hid (own_le hos KW.out.size); have KW2 := Lib.hid (KW.out.trans (hb.mono KW.out.size)); clear hss hos hb)))
       go_ret2
       exact ⟨va, vq, ss, rfl, HSS.out, HOS.out, KW2.out⟩
end Go.Proofs.YtolkchkedieppaaGreat
