/- The law DebtProof: its walk. -/
import Derived.Test.YtgmopcncbpdniaaQLawD0
import Derived.Deep.DeepCutAuto
import Derived.Deep.CutBlock
import Derived.BigRegion
set_option linter.unusedVariables false
set_option linter.unusedSimpArgs false
namespace Go.Proofs.Ytgmopcncbpdniaa
open Go.RowKit

set_option maxHeartbeats 8000000 in
set_option maxRecDepth 100000 in
theorem lawProof (nv ly lz : Nat) (vy vz : Value) (fy fz : Nat → Nat) (w : World) (hnv : nv < 256) (hy : U16s w vy ly fy) (hz : U8s w vz lz fz) (hly : ly ≤ 9223372036854775807) (hlz : lz ≤ 9223372036854775807) :
    Calls Try.prog 6 #[.int .u8 (nv : Nat), vy, vz] w fun e w' => e = .returned (.bool true) ∧ Below w.heap.size w w' := by
  have HY := Lib.hid hy
  obtain ⟨⟨az, bz, oz, cz, rfl, sz⟩, hzr⟩ := hz
  have SZ := Lib.hid sz
  have HZR := Lib.hid hzr
  clear hy sz hzr
  have HX : Hid (U16s w (.slice none 0 0) 0 (fun _ => 0)) := Lib.hid ⟨⟨none, 0, 0, 0, rfl, ⟨Nat.le_refl _, fun q => by omega, fun q => by omega, fun i hi => by omega, fun _ => rfl⟩⟩, fun i hi => by omega⟩
  go_enter Try.func6, Try.ntmps6
  go_wp2_with fail
  refine (lmade_any nv 0 ly _ vy (fun _ => 0) fy _ hnv HX.out HY.out (by omega) hly).mono ?_
  rintro e w1 ⟨va, vk, vb, vl, rfl, _, hm1, hb1⟩
  have HD := Lib.hid hm1
  have KW := Lib.hid hb1
  have hDB := debtM_debts (nv % 8 + 1) ly fy (by omega) (by omega)
  clear hm1 hb1 HY HX
  obtain ⟨n, hn⟩ : ∃ n, n = nv % 8 + 1 := ⟨_, rfl⟩
  rw [← hn] at HD hDB ⊢
  have hn1 : 1 ≤ n := by omega
  have hn8 : n ≤ 8 := by omega
  clear hn hly
  generalize debtM n ly fy = d at HD hDB ⊢
  have HDB := Lib.hid hDB
  have HDD : Hid (∀ i j, i < n → j < n → 0 ≤ d i j ∧ d i j ≤ 1000) := Lib.hid (fun i j hi hj => (hDB.2.2 i hi).2.2 j hj)
  have HDZ : Hid (∀ i, i < n → d i i = 0) := Lib.hid (fun i hi => (hDB.2.2 i hi).2.1)
  clear hDB
  go_wp2_with fail
  refine (Cancel_ok _ n (fun _ => n) d _ HD.out HDB.out).mono ?_
  rintro e w2 ⟨R, r, p0, rfl, hom, hopt, _, _, hb2⟩
  have HR := Lib.hid hom.mat
  have HRI := Lib.hid hom.isMat
  have HO := Lib.hid hopt
  have HD := Lib.hid (HD.out.mono hb2 (Nat.le_refl _))
  have KW := Lib.hid (KW.out.trans (hb2.mono KW.out.size))
  have HRB : Hid (∀ i j, i < n → j < n → 0 ≤ r i j ∧ r i j ≤ 1000) := Lib.hid (fun i j hi hj => by have := HO.out.inv.range i j hi hj; have := HDD.out i j hi hj; omega)
  clear hom hopt hb2
  go_wp2_with fail
  refine (Prices_ok _ n (fun _ => n) d _ HD.out HDB.out).mono ?_
  rintro e w3 ⟨C, r1, p, rfl, hrow, hopt1, hp, _, hb3⟩
  have HPI := Lib.hid (rowIs_sl hrow)
  have HP : Hid (Ints w3 (.slice (some ⟨C, 0, none⟩) n n) n p) := Lib.hid ⟨_, _, _, _, rfl, rowIs_sl hrow⟩
  have HOP := Lib.hid (opt_cross hopt1 HO.out)
  have HPB := Lib.hid hp
  have HPR : Hid (∀ i, i < n → -1000 ≤ p i ∧ p i ≤ 1000) := Lib.hid (fun i hi => by have := hp i hi; omega)
  have HD := Lib.hid (HD.out.mono hb3 (Nat.le_refl _))
  have HR := Lib.hid (HR.out.mono hb3 (Nat.le_refl _))
  have HRI := Lib.hid (HRI.out.mono hb3 (Nat.le_refl _))
  have KW := Lib.hid (KW.out.trans (hb3.mono KW.out.size))
  have e1 : (((n : Nat) : Int) != ((n : Nat) : Int)) = false := by simp
  clear hrow hopt1 hp hb3
  go_wp2_with (first
    | (go_at_call 9; (with_reducible refine (shape_any _ _ n n (fun _ => n) (fun _ => n) d r true ⟨fun _ => ⟨rfl, fun _ _ => rfl⟩, fun _ => rfl⟩ _ HD.out HR.out (by omega) (by omega)).mono ?_); rintro e w4 ⟨rfl, hd4⟩; have HD := Lib.hid (HD.out.drawn hd4); have HR := Lib.hid (HR.out.drawn hd4); have HRI := Lib.hid (HRI.out.drawn hd4); have HP := Lib.hid (HP.out.drawn hd4); have HPI := Lib.hid (HPI.out.drawn hd4); have KW := Lib.hid (KW.out.trans (hd4.below _)); clear hd4)
    | (go_at_call 12; (with_reducible refine (lives_true _).mono ?_); rintro e w5 ⟨rfl, hb5⟩; have HD := Lib.hid (HD.out.mono hb5 (Nat.le_refl _)); have HR := Lib.hid (HR.out.mono hb5 (Nat.le_refl _)); have HRI := Lib.hid (HRI.out.mono hb5 (Nat.le_refl _)); have HP := Lib.hid (HP.out.mono hb5 (Nat.le_refl _)); have HPI := Lib.hid (HPI.out.mono hb5 (Nat.le_refl _)); have KW := Lib.hid (KW.out.trans (hb5.mono KW.out.size)); clear hb5)
    | (go_at_call 19; (with_reducible refine (dProves_ok _ _ _ n (fun _ => n) d r p true ⟨fun _ => opt_PP HOP.out, fun _ => rfl⟩ _ HD.out HR.out HP.out HDB.out HPR.out).mono ?_); rintro e w6 ⟨rfl, hb6⟩; have HD := Lib.hid (HD.out.mono hb6 (Nat.le_refl _)); have HR := Lib.hid (HR.out.mono hb6 (Nat.le_refl _)); have HRI := Lib.hid (HRI.out.mono hb6 (Nat.le_refl _)); have HP := Lib.hid (HP.out.mono hb6 (Nat.le_refl _)); have HPI := Lib.hid (HPI.out.mono hb6 (Nat.le_refl _)); have KW := Lib.hid (KW.out.trans (hb6.mono KW.out.size)); clear hb6))
  obtain ⟨i0, hinf, hz0, hz1, hz2⟩ := info_parts infoI
  obtain ⟨i1, hinf1, hz01, hz11, hz21⟩ := info_parts infoM
  have G0 := Lib.hid (RowsIn.start (m := fun _ => n) (f := r) (World.ownsRow_made (e := 23) (base := w6.heap.size) (size := 1) w6 #[] 0 (Nat.le_refl _) (by unfold maxLen; omega) rfl))
  have KB0 := Lib.hid ((Below.refl w6.heap.size w6).alloc (Nat.le_refl _) (.cells #[] 23))
  go_loopw [16, 18] (fun v16 v18 wr => ∃ q : Nat, q ≤ n ∧ v18 = .int .i64 (q : Nat) ∧ ∃ vb vl ra rc, v16 = .slice vb q vl ∧ Hid (RowsIn w6.heap.size wr q (.slice vb q vl) ra rc (fun _ => n) r) ∧ Hid (Below w6.heap.size w6 wr)) (fun _ v18 _ => n - (intOf v18).toNat)
  case atStart => exact ⟨0, by omega, rfl, _, 0, _, _, rfl, G0, KB0⟩
  case round =>
    clear G0 KB0
    obtain ⟨q, hq, rfl, vb2, vl2, ra, rc, rfl, G, KB⟩ := hrel
    by_cases h : q < n
    · have f1 : decide ((q : Int) < (n : Int)) = true := by simpa using h
      have HRN := Lib.hid (HRI.out.mono KB.out (Nat.le_refl _))
      have hix := fun W => ixM HRN.out.top q n h W
      have hc := HRN.out.top.cell q h
      simp only [Nat.zero_add] at hix hc
      have hRlt : R < wr.heap.size := HRN.out.top.lt (by omega)
      have hRne : ¬ R = wr.heap.size := by omega
      have OW0 := Lib.hid (World.ownsRow_made (e := 3) (base := wr.heap.size) (size := 1) wr #[] 0 (Nat.le_refl _) (by unfold maxLen; omega) rfl)
      have HNW := Lib.hid (news_of ((HRN.out.row q h).alloc (.cells #[] 3)) n (Nat.le_refl n))
      have HONE := Lib.hid (ics_one (r q) n)
      have HLEN := Lib.hid (show (ics (r q) n).length = n * 1 by rw [ics_length]; omega)
      go_wp2_with (first
        | (at_builtin; refine wpList_append_own _ rfl (.tmp 89) (.tmp 93) 23 rfl wr.heap.size 3 i0 (.int .i64 0) 1 8 Try.underlying23 hinf hz0 hz1 hz2 rfl (by decide) (.slice (some ⟨wr.heap.size, 0, none⟩) 0 0) 0 [] rfl OW0.out ⟨R + 1 + q, 0, none⟩ n n (ics (r q) n) rfl HLEN.out HNW.out HONE.out (by unfold maxLen; omega) (by omega) (by simp) ?_; intro v' w7 hown hgrow _; rw [Nat.zero_add, List.nil_append] at hown; obtain ⟨va5, vk5, rfl⟩ := own_shape hown; have OW2 := Lib.hid hown; have HB2 := Lib.hid (((Below.refl wr.heap.size wr).alloc (Nat.le_refl _) (.cells #[] 3)).grown hgrow (by simp) (fun kk e => by cases e; exact Nat.le_refl _)); clear hown hgrow; have OW := Lib.hid (own_kept G.out.own HB2.out); have KB2 := Lib.hid (KB.out.trans (HB2.out.mono KB.out.size)))
        | (at_builtin; refine wpList_append_own_at _ rfl (.tmp 88) (.tmp 95) 24 rfl w6.heap.size 23 i1 (.slice none 0 0) 1 24 Try.underlying24 hinf1 hz01 hz11 hz21 rfl (by decide) (.slice vb2 q vl2) q (rowCells ra (fun _ => n) rc q) rfl (OW.out.alloc _) ⟨w7.heap.size, 0, none⟩ 1 1 [.slice va5 n vk5] rfl rfl (new1 w7 (.slice va5 n vk5) 23) (one1 _ rfl) (by unfold maxLen; omega) (by omega) (by have := KB2.out.size; simp; omega) ?_; intro v' w8 hown hgrow _ hbk; have HOWN := Lib.hid hown; have HGROW := Lib.hid hgrow; have HBK := Lib.hid hbk; obtain ⟨vb5, vl5, rfl⟩ := own_shape hown; clear hown hgrow hbk))
      go_roundw
      case rel =>
        have G2 := G.out.push KB.out.size HB2.out OW2.out _ HGROW.out HBK.out HOWN.out
        exact ⟨q + 1, by omega, by go_num, vb5, vl5, _, _, rfl, Lib.hid G2, Lib.hid ((KB2.out.alloc KB2.out.size _).grown HGROW.out (by have := KB2.out.size; simp; omega) (fun kk e => (G.out.own.lt kk e).1))⟩
      case measure => simp [intOf]; omega
    · obtain rfl : q = n := by omega
      have f1 : decide ((q : Int) < (q : Int)) = false := by simp
      obtain ⟨tt, cap, g, hv, hOM⟩ := G.out.ownM hn1
      cases hv
      have OMx := Lib.hid hOM
      clear hOM G
      go_upto_block 2 with (fail)
      go_cut [16] (fun v16 wx => v16 = .slice (some ⟨tt, 0, none⟩) q vl2 ∧ ∃ f, Hid (OwnM w6.heap.size wx q tt vl2 g rc f) ∧ Hid (∀ i j, i < q → j < q → -100 ≤ f i j ∧ f i j ≤ 1100) ∧ Hid (Below w6.heap.size w6 wx))
      case first =>
        go_wp2_with fail
        go_loopw [17, 19] (fun v17 v19 wr => ∃ t kk : Nat, t ≤ 13 ∧ kk ≤ t ∧ v19 = .int .i64 (t : Nat) ∧ v17 = .int .i64 (kk : Nat) ∧ ∃ f, Hid (OwnM w6.heap.size wr q tt vl2 g rc f) ∧ Hid (∀ i j, i < q → j < q → -(t : Int) ≤ f i j ∧ f i j ≤ 1000 + (t : Int)) ∧ Hid (Below w6.heap.size w6 wr)) (fun _ v19 _ => 14 - (intOf v19).toNat)
        case atStart => exact ⟨0, 0, by omega, by omega, rfl, rfl, r, OMx, Lib.hid (fun i j hi hj => by have := HRB.out i j hi hj; omega), KB⟩
        case round =>
          clear OMx KB
          obtain ⟨t, kk, ht, hkk, rfl, rfl, f, OMx, FB, KB⟩ := hrel
          by_cases c1 : t + 1 < lz
          · have d1 : decide ((t : Int) + 1 < (lz : Int)) = true := by simp; omega
            by_cases c2 : t < 12
            · have d2 : decide ((t : Int) < 12) = true := by simp; omega
              go_wp2
              have c0 : t < lz := by omega
              have KZ := Lib.hid (SZ.out.mono (KW.out.trans (KB.out.mono KW.out.size)) (Nat.le_refl _))
              have ix1 := fun W => ixU SZ.out t cz c0 W
              have ix2 : ∀ W, (Instr.indexAt 44 (.slice az lz cz) (.int .i64 ((t : Int) + 1))).run Try.prog W = .ok (.pointer (some ⟨bz, oz + (t + 1), none⟩)) W := fun W => ixU SZ.out (t + 1) cz c1 W
              have hw1 : IntKind.i64.wrap ((t : Int) + 1) = (t : Int) + 1 := by rw [IntKind.wrap_i64]; omega
              have z1 := KZ.out.cell t c0
              have z2 := KZ.out.cell (t + 1) c1
              have r1 := HZR.out t c0
              have r2 := HZR.out (t + 1) c1
              obtain ⟨a, ha⟩ : ∃ a, a = fz t % q := ⟨_, rfl⟩
              obtain ⟨b, hb⟩ : ∃ b, b = fz (t + 1) % q := ⟨_, rfl⟩
              have ha2 : a < q := by rw [ha]; exact Nat.mod_lt _ hn1
              have hb2 : b < q := by rw [hb]; exact Nat.mod_lt _ hn1
              have m1 : ((fz t : Nat) : Int) % (q : Int) = (a : Int) := by rw [ha]; rfl
              have m2 : ((fz (t + 1) : Nat) : Int) % (q : Int) = (b : Int) := by rw [hb]; rfl
              have m1t : ((fz t : Nat) : Int).tmod (q : Int) = (a : Int) := by rw [ha]; rfl
              have m2t : ((fz (t + 1) : Nat) : Int).tmod (q : Int) = (b : Int) := by rw [hb]; rfl
              have q0 : ¬ (q : Int) = 0 := by omega
              have q0b : ((q : Int) == 0) = false := by simp; omega
              have wa : IntKind.i64.wrap (a : Int) = (a : Int) := by rw [IntKind.wrap_i64]; omega
              have wb : IntKind.i64.wrap (b : Int) = (b : Int) := by rw [IntKind.wrap_i64]; omega
              clear ha hb
              refine wp_region_quiet_lit (by kernel_rfl) (by kernel_rfl) ?_
              repeat (go_big_quiet_step (fail))
              refine wpQuiet_nil ?_
              intro _ hw'
              obtain ⟨nq, hw''⟩ := hw'
              subst hw''
              have OM0 := Lib.hid (OMx.out.below ((Drawn.of wr nq).below _))
              have KB2 := Lib.hid (KB.out.trans ((Drawn.of wr nq).below _))
              have KZ2 := Lib.hid (KZ.out.drawn (Drawn.of wr nq))
              clear z1 z2 ix2 OMx KB KZ
              generalize wr.drewN nq = wq at OM0 KB2 KZ2 ⊢
              by_cases hab : a = b
              · have d3 : ((a : Int) == (b : Int)) = true := by simp [hab]
                clear hab
                go_wp2
                go_roundw
                case rel => exact ⟨t + 2, kk, by omega, by omega, by go_num, rfl, f, OM0, Lib.hid (fun i j hi hj => by have := FB.out i j hi hj; omega), KB2⟩
                case measure => simp [intOf]; omega
              · have d3 : ((a : Int) == (b : Int)) = false := by simp; omega
                have z1 := KZ2.out.cell t c0
                obtain ⟨y, hy⟩ : ∃ y : Int, y = ((fz t : Nat) : Int) / 16 % 3 - 1 := ⟨_, rfl⟩
                have y1 : -1 ≤ y := by omega
                have y2 : y ≤ 1 := by omega
                have my : ((fz t : Nat) : Int) / 16 % 3 - 1 = y := hy.symm
                have tx := fun W => ixM (OM0.out.isSlTop hn1) a vl2 ha2 W
                have tc := OM0.out.cellTop ha2
                have rx := fun W => ixI (OM0.out.isSlRow ha2) b (rc a) hb2 W
                have rcl := OM0.out.cell ha2 hb2
                have rfr := OM0.out.frozen ha2 b
                simp only [Nat.zero_add] at tx rx
                have FB1 := Lib.hid (bump_bound FB.out y1 y2 ha2 hb2)
                have OM1 := Lib.hid (OM0.out.bump ha2 b y)
                have KB3 := Lib.hid (KB2.out.setCell (p := ⟨g a, b, none⟩) (((OM0.out.row a ha2).lt (g a) rfl).1) (.int .i64 (f a b + y)))
                have wfy : IntKind.i64.wrap (f a b + y) = f a b + y := by have := FB.out a b ha2 hb2; rw [IntKind.wrap_i64]; omega
                clear hy hab
                go_wp2_with fail
                generalize World.setCell _ _ _ = wn at OM1 KB3 ⊢
                clear tx tc rx rcl rfr wfy my z1 KZ2 KB2 OM0
                obtain ⟨c, hc⟩ : ∃ c, c = (b + 1 + kk) % q := ⟨_, rfl⟩
                have hc2 : c < q := by rw [hc]; exact Nat.mod_lt _ hn1
                have wk1 : IntKind.i64.wrap ((b : Int) + 1) = (b : Int) + 1 := by rw [IntKind.wrap_i64]; omega
                have wk2 : IntKind.i64.wrap ((b : Int) + 1 + (kk : Int)) = ((b + 1 + kk : Nat) : Int) := by rw [IntKind.wrap_i64]; omega
                have m3 : ((b + 1 + kk : Nat) : Int) % (q : Int) = (c : Int) := by rw [hc]; rfl
                have m3t : ((b + 1 + kk : Nat) : Int).tmod (q : Int) = (c : Int) := by rw [hc]; rfl
                have wc3 : IntKind.i64.wrap (c : Int) = (c : Int) := by rw [IntKind.wrap_i64]; omega
                generalize b + 1 + kk = bk at wk2 m3 m3t
                have g0 : (0 : Int) ≤ (c : Int) := Int.natCast_nonneg c
                have g1 : (c : Int) < (q : Int) := by omega
                have g2 : (0 : Int) ≤ (b : Int) := Int.natCast_nonneg b
                have g3 : (b : Int) < (q : Int) := by omega
                have tx := fun W => ixM (OM1.out.isSlTop hn1) b vl2 hb2 W
                have tc := OM1.out.cellTop hb2
                have rx := fun W => ixI (OM1.out.isSlRow hb2) c (rc b) hc2 W
                have rcl := OM1.out.cell hb2 hc2
                have rfr := OM1.out.frozen hb2 c
                simp only [Nat.zero_add] at tx rx
                have FB2 := Lib.hid (bump_bound FB1.out y1 y2 hb2 hc2)
                have OM2 := Lib.hid (OM1.out.bump hb2 c y)
                have KB4 := Lib.hid (KB3.out.setCell (p := ⟨g b, c, none⟩) (((OM1.out.row b hb2).lt (g b) rfl).1) (.int .i64 (bump f a b y b c + y)))
                have hfx := FB1.out b c hb2 hc2
                obtain ⟨fx, hfx2⟩ : ∃ fx, fx = bump f a b y b c := ⟨_, rfl⟩
                rw [← hfx2] at rcl hfx OM2 KB4
                have wfy : IntKind.i64.wrap (fx + y) = fx + y := by rw [IntKind.wrap_i64]; omega
                have HFX := Lib.hid hfx2
                clear hc hfx hfx2
                go_region
                go_wp2
                go_roundw
                case rel =>
                  refine ⟨t + 2, kk + 1, by omega, by omega, by go_num, by go_num, bump (bump f a b y) b c y, Lib.hid ?_, Lib.hid (fun i j hi hj => by have := FB2.out i j hi hj; omega), Lib.hid ?_⟩
                  · exact OM2.out.below ((Drawn.of _ 1).below _)
                  · exact KB4.out.trans ((Drawn.of _ 1).below _)
                case measure => simp [intOf]; omega
            · have d2 : decide ((t : Int) < 12) = false := by simp; omega
              go_wp2
              go_meet
              case rel => exact ⟨rfl, f, OMx, Lib.hid (fun i j hi hj => by have := FB.out i j hi hj; omega), KB⟩
          · have d1 : decide ((t : Int) + 1 < (lz : Int)) = false := by simp; omega
            go_wp2
            go_meet
            case rel => exact ⟨rfl, f, OMx, Lib.hid (fun i j hi hj => by have := FB.out i j hi hj; omega), KB⟩
      case rest =>
        clear OMx KB
        obtain ⟨rfl, f, OMx, FB, KB⟩ := hcut
        have HM := Lib.hid (OMx.out.mat hn1)
        have HPN := Lib.hid (HPI.out.mono KB.out (Nat.le_refl _))
        have KW := Lib.hid (KW.out.trans (KB.out.mono KW.out.size))
        have HD := Lib.hid (HD.out.mono KB.out (Nat.le_refl _))
        have HR := Lib.hid (HR.out.mono KB.out (Nat.le_refl _))
        have HP := Lib.hid (HP.out.mono KB.out (Nat.le_refl _))
        clear OMx FB KB HRI HPI
        generalize wc = wd at *
        have OW0 := Lib.hid (World.ownsRow_made (e := 3) (base := wd.heap.size) (size := 1) wd #[] 0 (Nat.le_refl _) (by unfold maxLen; omega) rfl)
        have HNW := Lib.hid (news_of (HPN.out.alloc (.cells #[] 3)) q (Nat.le_refl q))
        have HONE := Lib.hid (ics_one p q)
        have HLEN := Lib.hid (show (ics p q).length = q * 1 by rw [ics_length]; omega)
        go_upto_if 169 with (at_builtin; refine wpList_append_own _ rfl (.tmp 164) (.tmp 165) 23 rfl wd.heap.size 3 i0 (.int .i64 0) 1 8 Try.underlying23 hinf hz0 hz1 hz2 rfl (by decide) (.slice (some ⟨wd.heap.size, 0, none⟩) 0 0) 0 [] rfl OW0.out ⟨C, 0, none⟩ q q (ics p q) rfl HLEN.out HNW.out HONE.out (by unfold maxLen; omega) (by omega) (by simp) ?_; intro v' w9 hown hgrow _; rw [Nat.zero_add, List.nil_append] at hown; obtain ⟨M, vk6, rfl, _, hMl⟩ := hown.form hn1; have OW := Lib.hid hown; have HB2 := Lib.hid (((Below.refl wd.heap.size wd).alloc (Nat.le_refl _) (.cells #[] 3)).grown hgrow (by simp) (fun kk e => by cases e; exact Nat.le_refl _)); clear hown hgrow hMl)
        clear OW0 HNW HONE HLEN
        go_cut [23] (fun v23 wx => v23 = .slice (some ⟨M, 0, none⟩) q vk6 ∧ ∃ ps, Hid (wx.ownsRow wd.heap.size 3 1 (.slice (some ⟨M, 0, none⟩) q vk6) q (ics ps q)) ∧ Hid (Below wd.heap.size wd wx))
        case first =>
          by_cases hl : 0 < lz
          · have d1 : decide (0 < (lz : Int)) = true := by simp; omega
            obtain ⟨e, he⟩ : ∃ e, e = lz - 1 := ⟨_, rfl⟩
            have hel : e < lz := by omega
            have wl : IntKind.i64.wrap ((lz : Int) - 1) = (e : Int) := by rw [IntKind.wrap_i64]; omega
            have KZ := Lib.hid (SZ.out.mono (KW.out.trans (HB2.out.mono KW.out.size)) (Nat.le_refl _))
            have ix0 : ∀ W, (Instr.indexAt 44 (.slice az lz cz) (.int .i64 0)).run Try.prog W = .ok (.pointer (some ⟨bz, oz, none⟩)) W := fun W => ixU SZ.out 0 cz hl W
            have ix1 := fun W => ixU SZ.out e cz hel W
            have z0 := KZ.out.cell 0 hl
            have z1 := KZ.out.cell e hel
            have r1 := HZR.out 0 hl
            have r2 := HZR.out e hel
            simp only [Nat.add_zero] at z0
            obtain ⟨a, ha⟩ : ∃ a, a = fz 0 % q := ⟨_, rfl⟩
            have ha2 : a < q := by rw [ha]; exact Nat.mod_lt _ hn1
            have m1 : ((fz 0 : Nat) : Int) % (q : Int) = (a : Int) := by rw [ha]; rfl
            have m1t : ((fz 0 : Nat) : Int).tmod (q : Int) = (a : Int) := by rw [ha]; rfl
            have wa : IntKind.i64.wrap (a : Int) = (a : Int) := by rw [IntKind.wrap_i64]; omega
            obtain ⟨y, hy⟩ : ∃ y : Int, y = ((fz e : Nat) : Int) % 3 - 1 := ⟨_, rfl⟩
            have y1 : -1 ≤ y := by omega
            have y2 : y ≤ 1 := by omega
            have my : ((fz e : Nat) : Int) % 3 - 1 = y := hy.symm
            have myt : ((fz e : Nat) : Int).tmod 3 - 1 = y := by rw [hy]; rfl
            have wmt : IntKind.i64.wrap (((fz e : Nat) : Int).tmod 3) = ((fz e : Nat) : Int).tmod 3 := by
              have : ((fz e : Nat) : Int).tmod 3 = ((fz e : Nat) : Int) % 3 := rfl
              rw [this, IntKind.wrap_i64]; omega
            have wz0 : IntKind.i64.wrap ((fz 0 : Nat) : Int) = ((fz 0 : Nat) : Int) := by rw [IntKind.wrap_i64]; omega
            have wz1 : IntKind.i64.wrap ((fz e : Nat) : Int) = ((fz e : Nat) : Int) := by rw [IntKind.wrap_i64]; omega
            have hq0 : ¬ q = 0 := by omega
            have wm : IntKind.i64.wrap (((fz e : Nat) : Int) % 3) = ((fz e : Nat) : Int) % 3 := by rw [IntKind.wrap_i64]; omega
            have wy : IntKind.i64.wrap y = y := by rw [IntKind.wrap_i64]; omega
            have q0 : ¬ (q : Int) = 0 := by omega
            have q0b : ((q : Int) == 0) = false := by simp; omega
            have g0 : (0 : Int) ≤ (a : Int) := Int.natCast_nonneg a
            have g1 : (a : Int) < (q : Int) := by omega
            have g2 : (0 : Int) ≤ (e : Int) := Int.natCast_nonneg e
            have g3 : (e : Int) < (lz : Int) := by omega
            have mx := fun W => ixI (rowIs_own OW.out hn1) a vk6 ha2 W
            have mc := OW.out.cellAt a (by omega)
            rw [ics_get _ _ _ ha2] at mc
            have mf := OW.out.frozenAt a
            simp only [Nat.zero_add, ic] at mx mc
            have hpa := HPB.out a ha2
            have wpy : IntKind.i64.wrap (p a + y) = p a + y := by rw [IntKind.wrap_i64]; omega
            have OW2 := Lib.hid (own_ints_set OW.out a (p a + y))
            have HB3 := Lib.hid (HB2.out.setCell (p := ⟨M, a, none⟩) ((OW.out.lt M rfl).1) (.int .i64 (p a + y)))
            clear ha hy he hpa r1 r2
            go_wp2
            go_region
            go_wp2
            go_meet
            case rel => exact ⟨rfl, _, Lib.hid (own_kept OW2.out ((Drawn.of _ 1).below _)), Lib.hid (HB3.out.trans ((Drawn.of _ 1).below _))⟩
          · have d1 : decide (0 < (lz : Int)) = false := by simp; omega
            go_wp2
            go_meet
            case rel => exact ⟨rfl, p, OW, HB2⟩
        case rest =>
          clear OW HB2
          obtain ⟨rfl, ps, OW, HB2⟩ := hcut
          have HMV : Hid (Ints wc (.slice (some ⟨M, 0, none⟩) q vk6) q ps) := Lib.hid (ints_of_own OW.out)
          have HM := Lib.hid (HM.out.mono HB2.out (Nat.le_refl _))
          have HD := Lib.hid (HD.out.mono HB2.out (Nat.le_refl _))
          have HR := Lib.hid (HR.out.mono HB2.out (Nat.le_refl _))
          have HP := Lib.hid (HP.out.mono HB2.out (Nat.le_refl _))
          have KW := Lib.hid (KW.out.trans (HB2.out.mono KW.out.size))
          clear OW HB2 HPN
          have hb9 := (Below.refl wc.heap.size wc).alloc (Nat.le_refl _) (.cells #[.slice (some ⟨C, 0, none⟩) q q, .slice (some ⟨M, 0, none⟩) q vk6] 23)
          have HTS := Lib.hid (sl_new wc [.slice (some ⟨C, 0, none⟩) q q, .slice (some ⟨M, 0, none⟩) q vk6] 23 (fun i => if i = 0 then .slice (some ⟨C, 0, none⟩) q q else .slice (some ⟨M, 0, none⟩) q vk6) wc.heap.size rfl (fun i hi => by
            have hi : i < 2 := hi
            have : i = 0 ∨ i = 1 := by omega
            rcases this with e | e <;> subst e <;> rfl))
          have HM := Lib.hid (HM.out.mono hb9 (Nat.le_refl _))
          have HD := Lib.hid (HD.out.mono hb9 (Nat.le_refl _))
          have HR := Lib.hid (HR.out.mono hb9 (Nat.le_refl _))
          have HP := Lib.hid (HP.out.mono hb9 (Nat.le_refl _))
          have HMV := Lib.hid (HMV.out.mono hb9 (Nat.le_refl _))
          have KW := Lib.hid (KW.out.trans (hb9.mono KW.out.size))
          have hTT : ∀ s, s < 2 → ∃ a3 c3 ps3, (wc.alloc (.cells #[.slice (some ⟨C, 0, none⟩) q q, .slice (some ⟨M, 0, none⟩) q vk6] 23)).cell? ⟨wc.heap.size, s, none⟩ = some (.slice a3 q c3) ∧ Ints (wc.alloc (.cells #[.slice (some ⟨C, 0, none⟩) q q, .slice (some ⟨M, 0, none⟩) q vk6] 23)) (.slice a3 q c3) q ps3 := fun s hs => by
            have hc := HTS.out.cell s hs
            rw [Nat.zero_add] at hc
            have : s = 0 ∨ s = 1 := by omega
            rcases this with e | e
            · subst e; exact ⟨_, _, p, hc, HP.out⟩
            · subst e; exact ⟨_, _, ps, hc, HMV.out⟩
          have HTT0 := Lib.hid hTT
          clear hb9 hTT HP HMV
          go_wp2_with fail
          generalize wc.alloc _ = we at *
          generalize wc.heap.size = T at *
          have KE0 := Lib.hid (Below.refl we.heap.size we)
          go_loopw [195] (fun v195 wr => ∃ s : Nat, s ≤ 2 ∧ v195 = .int .i64 (s : Nat) ∧ Hid (Below we.heap.size we wr)) (fun v195 _ => 2 - (intOf v195).toNat)
          case atStart => exact ⟨0, by omega, rfl, KE0⟩
          case round =>
            clear KE0
            obtain ⟨s, hs, rfl, KE⟩ := hrel
            by_cases h2 : s < 2
            · have d1 : decide ((s : Int) < 2) = true := by simp; omega
              obtain ⟨a3, c3, ps3, hcl, hints⟩ := HTT0.out s h2
              have HP3 := Lib.hid (hints.mono KE.out (Nat.le_refl _))
              have HD3 := Lib.hid (HD.out.mono KE.out (Nat.le_refl _))
              have HR3 := Lib.hid (HR.out.mono KE.out (Nat.le_refl _))
              have HM3 := Lib.hid (HM.out.mono KE.out (Nat.le_refl _))
              have hc := (HTS.out.mono KE.out (Nat.le_refl _)).cell s h2
              have hcc := HTS.out.cell s h2
              rw [Nat.zero_add] at hc hcc
              rw [hcl] at hcc
              rw [← hcc] at hc
              have hix := fun W => ixM HTS.out s 2 h2 W
              simp only [Nat.zero_add] at hix
              clear hcl hints hcc
              by_cases hPR : ∀ i, i < q → -1000 ≤ ps3 i ∧ ps3 i ≤ 1000
              · have HPR3 := Lib.hid hPR
                clear hPR
                by_cases ht : PP q d f ps3
                · have HTT : Hid (PP q d f ps3) := Lib.hid ht
                  have HSM := Lib.hid (opt_same (PP_opt HDZ.out ht) HO.out)
                  have HFB : Hid (∀ i j, i < q → j < q → 0 ≤ f i j ∧ f i j ≤ 1000) := Lib.hid (fun i j hi hj => by have h8 := ht.1 i hi j hj; have h9 := HDD.out i j hi hj; have := h8.1; have := h8.2.1; omega)
                  have e5 : (sum2 q f != sum2 q r) = false := by rw [HSM.out]; simp
                  clear ht
                  go_wp2_with (first
                  | (go_at_call 19; (with_reducible refine (dProves_ok _ _ _ q (fun _ => q) d f ps3 true ⟨fun _ => HTT.out, fun _ => rfl⟩ _ HD3.out HM3.out HP3.out HDB.out HPR3.out).mono ?_); rintro e w20 ⟨rfl, hb20⟩; have HD3 := Lib.hid (HD3.out.mono hb20 (Nat.le_refl _)); have HM3 := Lib.hid (HM3.out.mono hb20 (Nat.le_refl _)); have HR3 := Lib.hid (HR3.out.mono hb20 (Nat.le_refl _)); have HP3 := Lib.hid (HP3.out.mono hb20 (Nat.le_refl _)); have KE := Lib.hid (KE.out.trans (hb20.mono KE.out.size)); clear hb20)
                  | (go_at_call 11; (with_reducible refine (refSum_any _ q f _ HM3.out hn8 HFB.out).mono ?_); rintro e w21 ⟨rfl, hd21⟩; have HD3 := Lib.hid (HD3.out.drawn hd21); have HM3 := Lib.hid (HM3.out.drawn hd21); have HR3 := Lib.hid (HR3.out.drawn hd21); have HP3 := Lib.hid (HP3.out.drawn hd21); have KE := Lib.hid (KE.out.trans (hd21.below _)); clear hd21)
                  | (go_at_call 11; (with_reducible refine (refSum_any _ q r _ HR3.out hn8 HRB.out).mono ?_); rintro e w22 ⟨rfl, hd22⟩; have HD3 := Lib.hid (HD3.out.drawn hd22); have HM3 := Lib.hid (HM3.out.drawn hd22); have HP3 := Lib.hid (HP3.out.drawn hd22); have KE := Lib.hid (KE.out.trans (hd22.below _)); clear hd22)
                  | (go_at_call 17; (with_reducible refine (refProves_any _ _ _ q d f ps3 true ⟨fun _ => HTT.out, fun _ => rfl⟩ _ HD3.out HM3.out HP3.out hn8 HDD.out HPR3.out).mono ?_); rintro e w23 ⟨rfl, hd23⟩; have KE := Lib.hid (KE.out.trans (hd23.below _)); clear hd23))
                  go_roundw
                  case rel => exact ⟨s + 1, by omega, by go_num, KE⟩
                  case measure => simp [intOf]; omega
                · have HTT := Lib.hid ht
                  clear ht
                  go_wp2_with (first
                  | (go_at_call 19; (with_reducible refine (dProves_ok _ _ _ q (fun _ => q) d f ps3 false ⟨fun e => Bool.noConfusion e, fun h => absurd h HTT.out⟩ _ HD3.out HM3.out HP3.out HDB.out HPR3.out).mono ?_); rintro e w20 ⟨rfl, hb20⟩; have HD3 := Lib.hid (HD3.out.mono hb20 (Nat.le_refl _)); have HM3 := Lib.hid (HM3.out.mono hb20 (Nat.le_refl _)); have HR3 := Lib.hid (HR3.out.mono hb20 (Nat.le_refl _)); have HP3 := Lib.hid (HP3.out.mono hb20 (Nat.le_refl _)); have KE := Lib.hid (KE.out.trans (hb20.mono KE.out.size)); clear hb20)
                  | (go_at_call 17; (with_reducible refine (refProves_any _ _ _ q d f ps3 false ⟨fun e => Bool.noConfusion e, fun h => absurd h HTT.out⟩ _ HD3.out HM3.out HP3.out hn8 HDD.out HPR3.out).mono ?_); rintro e w23 ⟨rfl, hd23⟩; have KE := Lib.hid (KE.out.trans (hd23.below _)); clear hd23))
                  go_roundw
                  case rel => exact ⟨s + 1, by omega, by go_num, KE⟩
                  case measure => simp [intOf]; omega
              · have HNP := Lib.hid hPR
                clear hPR
                go_wp2_with (go_at_call 19; (refine (dProves_form _ _ _ q q q (fun _ => q) (fun _ => q) d f ps3 _ HD3.out HM3.out HP3.out (by omega) (fun i _ => by omega) (by omega) (fun i _ => by omega) (by omega) HDB.out (fun h => HNP.out h.2.2.2)).mono ?_); rintro e w20 ⟨rfl, hb20⟩; have KE := Lib.hid (KE.out.trans (hb20.mono KE.out.size)); clear hb20)
                go_roundw
                case rel => exact ⟨s + 1, by omega, by go_num, KE⟩
                case measure => simp [intOf]; omega
            · obtain rfl : s = 2 := by omega
              go_wp2
              go_ret
              exact ⟨rfl, KW.out.trans (KE.out.mono KW.out.size)⟩

end Go.Proofs.Ytgmopcncbpdniaa
