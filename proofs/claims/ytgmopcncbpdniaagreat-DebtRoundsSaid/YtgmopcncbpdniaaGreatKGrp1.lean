/- rounds of package debt at the document's example. -/
import Derived.Test.YtgmopcncbpdniaaGreatKLive1
import Derived.Laws.Cover3
import Derived.Test.YtgmopcncbpdniaaGreatKGen
import Derived.Test.YtgmopcncbpdniaaGreatKRep
set_option linter.unusedVariables false
set_option linter.unusedSimpArgs false
namespace Go.Proofs.YtgmopcncbpdniaaGreat
open Go.RowKit
attribute [local go_sem ↓] Go.wp_at_zero Go.wp_at_succ
theorem Own2.bools {w : World} {b : Nat} {x y : Bool} (h : Own2 w b (.bool x) (.bool y)) : Bools2 w b x y := ⟨h.c0, h.c1, h.lt⟩
theorem eql_nil_some (x : Addr) (l c : Nat) (W : World) : (binOp .eql 24 (.slice (some x) l c) (.slice none 0 0)).run Tryz.prog W = .ok (.bool false) W :=
  by
  simp only [binOp]
  simp [run_equal_slice_nil W 24 3 (some x) l c Tryz.underlying24]
theorem eql_nil_none (W : World) : (binOp .eql 24 (.slice none 0 0) (.slice none 0 0)).run Tryz.prog W = .ok (.bool true) W :=
  by
  simp only [binOp]
  simp [run_equal_slice_nil W 24 3 none 0 0 Tryz.underlying24]
theorem rat_cmp_val (x y : Value) (a b : Rat) (k : Nat) (w : World) (c : Int) (hx : RatIs w x a k) (hy : RatIs w y b k) (hk : 2 * k ≤ 549755813888) (hc : cmpQ a b = c) :
    Calls Tryz.prog 62 #[x, y] w fun e w' => e = .returned (.int .i64 c) ∧ Below w.heap.size w w' := by
  subst hc
  exact rat_cmp x y a b k w hx hy hk
set_option maxHeartbeats 8000000 in
set_option maxRecDepth 100000 in
theorem rounds_live (b : Nat) (vc vd vt : Value) (w : World) (hm : IsMkt w b 2 cashL dL vc vd vt) :
    Calls Tryz.prog 39 #[.pointer (some ⟨b, 0, none⟩)] w fun e w' => ∃ o oc n nc g, e = .returned (.tuple #[.slice (some ⟨o, 0, none⟩) 1 oc, .slice (some ⟨g, 0, none⟩) 2 2]) ∧
      w'.cell? ⟨o, 0, none⟩ = some (.slice (some ⟨n, 0, none⟩) 1 nc) ∧ w'.cell? ⟨n, 0, none⟩ = some (.int .i64 0) ∧ IsRats w' g 0 2 (twoQ 3 2) 5120 ∧ Below w.heap.size w w' ∧ o < w'.heap.size ∧ n < w'.heap.size ∧ 1 ≤ oc ∧ 1 ≤ nc := by
  have HM := Lib.hid hm
  obtain ⟨c0, c1, c2, c3, hcash, hdebt, ⟨ta, tb, t_o, tc, rfl, hts⟩, hlt⟩ := hm
  have ixt0 := fun W => ixI hts 0 tc (by omega) W
  have ixt1 := fun W => ixI hts 1 tc (by omega) W
  have ht0 := hts.cell 0 (by omega)
  have ht1 := hts.cell 1 (by omega)
  have htl := hts.lt (by omega)
  simp only [ic, dL_tot0, dL_tot1, Nat.add_zero] at ht0 ht1
  simp only [Int.natCast_zero, Int.natCast_one, Nat.add_zero] at ixt0 ixt1
  have keepS : Hid (∀ w', Below w.heap.size w w' → w'.cell? ⟨b, 0, none⟩ = some (.int .i64 2) ∧ w'.cell? ⟨b, 3, none⟩ = some (.slice ta 2 tc) ∧ w'.cell? ⟨tb, t_o, none⟩ = some (.int .i64 4) ∧ w'.cell? ⟨tb, t_o + 1, none⟩ = some (.int .i64 2)) :=
    Lib.hid (fun w' hb => ⟨bel1 hb c0 hlt, bel1 hb c3 hlt, bel1 hb ht0 htl, bel1 hb ht1 htl⟩)
  have hmk := mkB2
  have heq1 := eql_nil_some
  have heq2 := eql_nil_none
  have KW0 : Hid (Below w.heap.size w w) := Lib.hid (Below.refl _ _)
  clear c0 c1 c2 c3 ht0 ht1 hcash hdebt hts
  obtain ⟨c0, c3, ht0, ht1⟩ := keepS.out _ KW0.out
  go_enter Tryz.func39, Tryz.ntmps39
  go_wp2
  go_cut [4, 5] (fun v4 v5 wx => ∃ fb nb : Nat, v4 = .slice (some ⟨fb, 0, none⟩) 2 2 ∧ v5 = .slice (some ⟨nb, 0, none⟩) 2 2 ∧ Hid (Own2 wx fb (.bool false) (.bool false)) ∧ Hid (Own2 wx nb (.bool false) (.bool false)) ∧ fb ≠ nb ∧ w.heap.size ≤ fb ∧ w.heap.size ≤ nb ∧ Hid (Below w.heap.size w wx))
  case first =>
    go_region
    all_goals
      go_wp2_with fail
      go_meet
      case rel =>
        first
        | exact ⟨_, _, rfl, rfl, Lib.hid ((own2_new _ _ rfl _ _ _).alloc _).drew, Lib.hid (own2_new _ _ (by simp) _ _ _).drew, by omega, by omega, by omega, Lib.hid (boxes2 _ _ _).drew⟩
        | exact ⟨_, _, rfl, rfl, Lib.hid (own2_new _ _ (by simp) _ _ _).drew, Lib.hid ((own2_new _ _ rfl _ _ _).alloc _).drew, by omega, by omega, by omega, Lib.hid (boxes2 _ _ _).drew⟩
  case rest =>
    obtain ⟨fb, nb, rfl, rfl, OF, ON, hne, hfb, hnb, KW⟩ := hcut
    clear c0 c3 ht0 ht1
    obtain ⟨c0, c3, ht0, ht1⟩ := keepS.out _ KW.out
    go_wp2
    refine wp_loop_rounds 3 ?_
    rw [rounds_succ]
    go_wp2_with (first
      | (go_at_call 71; (with_reducible refine (solve_l0 b _ _ _ _ (HM.out.mono KW.out (Nat.le_refl _)) fb nb 2 2 OF.out.bools ON.out.bools).mono ?_); rintro e w1 ⟨g1, rfl, hr1, hb1⟩; have KW := Lib.hid (KW.out.trans (hb1.mono KW.out.size)); have OF := Lib.hid (OF.out.below hb1 OF.out.lt); have ON := Lib.hid (ON.out.below hb1 ON.out.lt); have PY := Lib.hid hr1; have OFL := Lib.hid OF.out.lt; clear hr1 c0 c3 ht0 ht1; obtain ⟨c0, c3, ht0, ht1⟩ := keepS.out _ KW.out))
    refine wp_loop_rounds 3 ?_
    rw [rounds_succ]
    go_wp2
    have KC : Hid (Below w1.heap.size w1 w1) := Lib.hid (Below.refl _ _)
    have keepR : Hid (∀ w', Below w1.heap.size w1 w' → w'.cell? ⟨fb, 0, none⟩ = some (.bool false) ∧ w'.cell? ⟨b, 3, none⟩ = some (.slice ta 2 tc) ∧ w'.cell? ⟨tb, t_o, none⟩ = some (.int .i64 4)) :=
      Lib.hid (fun w' hb => ⟨bel1 hb OF.out.c0 OF.out.lt, bel1 hb (keepS.out _ KW.out).2.1 (Nat.lt_of_lt_of_le hlt KW.out.size), bel1 hb (keepS.out _ KW.out).2.2.1 (Nat.lt_of_lt_of_le htl KW.out.size)⟩)
    go_cut [53] (fun v53 wx => v53 = .bool true ∧ Hid (Below w1.heap.size w1 wx))
    case first =>
      have KC0 := KC
      have KC := Lib.hid KC.out.drew
      go_region_held3 (fun w' => w'.cell? ⟨fb, 0, none⟩ = some (.bool false) ∧ w'.cell? ⟨b, 3, none⟩ = some (.slice ta 2 tc) ∧ w'.cell? ⟨tb, t_o, none⟩ = some (.int .i64 4))
        (first | (with_reducible exact keepR.out _ KC0.out) | (with_reducible exact keepR.out _ KC.out))
        (first
        | (go_at_call 51; (with_reducible refine (has_l0 b _ _ _ _ (HM.out.mono (KW.out.trans (KC.out.mono KW.out.size)) (Nat.le_refl _)) g1 2 (twoQ 4 2) 4 (PY.out.mono KC.out (Nat.le_refl _)) (by omega) (by omega) 3 has_42_0).mono ?_); rintro e wa ⟨ra, rfl, hra, hba⟩; obtain ⟨sa, aa, na, ea, ba, ma, da, rfl, KH⟩ := hra.shape; clear hra; (try have KT := Lib.hid (KT.out.mono hba (Nat.le_refl _))); have KC := Lib.hid (KC.out.trans (hba.mono KC.out.size)))
        | (go_at_call 59; (with_reducible refine (rat_whole 4 (by omega) (by omega) _).mono ?_); rintro e wt ⟨rt, rfl, hrt, hbt⟩; obtain ⟨st, at_, nt, et, bt, mt, dt, rfl, KT⟩ := hrt.shape; clear hrt; (try have KH := Lib.hid (KH.out.mono hbt (Nat.le_refl _))); have KC := Lib.hid (KC.out.trans (hbt.mono KC.out.size)))
        | (go_at_call 62; (with_reducible refine (rat_cmp_val _ _ 3 ((4 : Int) : Rat) 2560 _ (-1) KH.out (KT.out.le (by omega)) (by omega) (by decide +kernel)).mono ?_); rintro e wc ⟨rfl, hbc⟩; have KC := Lib.hid (KC.out.trans (hbc.mono KC.out.size))))
      all_goals
        go_wp2_with fail
        go_meet
        case rel => exact ⟨rfl, KC⟩
    case rest =>
      obtain ⟨rfl, KC⟩ := hcut
      go_wp2
      rw [rounds_succ]
      generalize hcap : (Question.appendCap 1 0 3).cut (wc.tape wc.drawn (Question.appendCap 1 0 3)) = cap
      have HCP : Hid (1 ≤ cap) := Lib.hid (by rw [← hcap]; exact Nat.le_add_right _ _)
      clear hcap
      have HA := Lib.hid (boxes2 wc (.cells #[.int .i64 0] 3) (.cells (#[.int .i64 0] ++ Builtin.zeroCells #[.int .i64 0] (cap - 1)) 3)).drew
      have NC : Hid ((((wc.alloc (.cells #[.int .i64 0] 3)).alloc (.cells (#[.int .i64 0] ++ Builtin.zeroCells #[.int .i64 0] (cap - 1)) 3)).drew).cell? ⟨wc.heap.size + 1, 0, none⟩ = some (.int .i64 0)) := Lib.hid (by simp [go_sem]; rw [Array.getElem?_append_left (by simp)]; rfl)
      have NL : Hid (wc.heap.size + 1 < (((wc.alloc (.cells #[.int .i64 0] 3)).alloc (.cells (#[.int .i64 0] ++ Builtin.zeroCells #[.int .i64 0] (cap - 1)) 3)).drew).heap.size) := Lib.hid (by simp)
      have KA := Lib.hid (KC.out.trans (HA.out.mono KC.out.size))
      have KW := Lib.hid (KW.out.trans (KA.out.mono KW.out.size))
      have OF := Lib.hid (OF.out.below KA.out OF.out.lt)
      have ON := Lib.hid (ON.out.below KA.out ON.out.lt)
      have PY := Lib.hid (PY.out.mono KA.out (Nat.le_refl _))
      have hfN : fb < wc.heap.size + 1 := by have := OF.out.lt; have := KC.out.size; have h1 := OFL.out; omega
      have hnN : wc.heap.size + 1 ≠ fb := by omega
      generalize hN : wc.heap.size + 1 = N at *
      generalize (((wc.alloc (.cells #[.int .i64 0] 3)).alloc (.cells (#[.int .i64 0] ++ Builtin.zeroCells #[.int .i64 0] (cap - 1)) 3)).drew) = wA at *
      clear HA KA KC c0 c3 ht0 ht1 keepR hN
      obtain ⟨c0, c3, ht0, ht1⟩ := keepS.out _ KW.out
      go_wp2
      have KC : Hid (Below wA.heap.size wA wA) := Lib.hid (Below.refl _ _)
      have keepR : Hid (∀ w', Below wA.heap.size wA w' → w'.cell? ⟨fb, 1, none⟩ = some (.bool false) ∧ w'.cell? ⟨b, 3, none⟩ = some (.slice ta 2 tc) ∧ w'.cell? ⟨tb, t_o + 1, none⟩ = some (.int .i64 2)) :=
        Lib.hid (fun w' hb => ⟨bel1 hb OF.out.c1 OF.out.lt, bel1 hb (keepS.out _ KW.out).2.1 (Nat.lt_of_lt_of_le hlt KW.out.size), bel1 hb (keepS.out _ KW.out).2.2.2 (Nat.lt_of_lt_of_le htl KW.out.size)⟩)
      go_cut [53] (fun v53 wx => v53 = .bool false ∧ Hid (Below wA.heap.size wA wx))
      case first =>
        have KC0 := KC
        have KC := Lib.hid KC.out.drew
        go_region_held3 (fun w' => w'.cell? ⟨fb, 1, none⟩ = some (.bool false) ∧ w'.cell? ⟨b, 3, none⟩ = some (.slice ta 2 tc) ∧ w'.cell? ⟨tb, t_o + 1, none⟩ = some (.int .i64 2))
          (first | (with_reducible exact keepR.out _ KC0.out) | (with_reducible exact keepR.out _ KC.out))
          (first
          | (go_at_call 51; (with_reducible refine (has_l1 b _ _ _ _ (HM.out.mono (KW.out.trans (KC.out.mono KW.out.size)) (Nat.le_refl _)) g1 2 (twoQ 4 2) 4 (PY.out.mono KC.out (Nat.le_refl _)) (by omega) (by omega) 4 has_42_1).mono ?_); rintro e wa ⟨ra, rfl, hra, hba⟩; obtain ⟨sa, aa, na, ea, ba, ma, da, rfl, KH⟩ := hra.shape; clear hra; (try have KT := Lib.hid (KT.out.mono hba (Nat.le_refl _))); have KC := Lib.hid (KC.out.trans (hba.mono KC.out.size)))
          | (go_at_call 59; (with_reducible refine (rat_whole 2 (by omega) (by omega) _).mono ?_); rintro e wt ⟨rt, rfl, hrt, hbt⟩; obtain ⟨st, at_, nt, et, bt, mt, dt, rfl, KT⟩ := hrt.shape; clear hrt; (try have KH := Lib.hid (KH.out.mono hbt (Nat.le_refl _))); have KC := Lib.hid (KC.out.trans (hbt.mono KC.out.size)))
          | (go_at_call 62; (with_reducible refine (rat_cmp_val _ _ 4 ((2 : Int) : Rat) 2560 _ (1) KH.out (KT.out.le (by omega)) (by omega) (by decide +kernel)).mono ?_); rintro e wc ⟨rfl, hbc⟩; have KC := Lib.hid (KC.out.trans (hbc.mono KC.out.size))))
        all_goals
          go_wp2_with fail
          go_meet
          case rel => exact ⟨rfl, KC⟩
      case rest =>
        obtain ⟨rfl, KC⟩ := hcut
        go_wp2
        rw [rounds_succ]
        have KW := Lib.hid (KW.out.trans (KC.out.mono KW.out.size))
        have OF := Lib.hid (OF.out.below KC.out OF.out.lt)
        have ON := Lib.hid (ON.out.below KC.out ON.out.lt)
        have NC := Lib.hid (bel1 KC.out NC.out NL.out)
        have NL := Lib.hid (Nat.lt_of_lt_of_le NL.out KC.out.size)
        clear KC c0 c3 ht0 ht1 keepR
        obtain ⟨f0, f1, ff, fl⟩ := OF.out
        have nc := NC.out
        go_wp2
        refine wp_loop_rounds 2 ?_
        rw [rounds_succ]
        go_wp2
        rw [rounds_succ]
        have KW : Hid (Below w.heap.size w (wc.setCell ⟨fb, 0, none⟩ (.bool true))) := Lib.hid (KW.out.setCell hfb _)
        have ON : Hid (Own2 (wc.setCell ⟨fb, 0, none⟩ (.bool true)) nb (.bool false) (.bool false)) := Lib.hid (ON.out.setCell fb 0 _ hne)
        have NC : Hid ((wc.setCell ⟨fb, 0, none⟩ (.bool true)).cell? ⟨N, 0, none⟩ = some (.int .i64 0)) := Lib.hid ((far_set _ _ _ _ _ _ (Ne.symm hnN)).trans NC.out)
        have NL : Hid (N < (wc.setCell ⟨fb, 0, none⟩ (.bool true)).heap.size) := Lib.hid (by simp only [World.setCell, Array.size_modify]; exact NL.out)
        have OF : Hid (Own2 (wc.setCell ⟨fb, 0, none⟩ (.bool true)) fb (.bool true) (.bool false)) := Lib.hid ⟨self_set OF.out.c0, off_set (by decide) OF.out.c1, fun o => by rw [World.frozen?_setCell]; exact OF.out.f o, by simp only [World.setCell, Array.size_modify]; exact OF.out.lt⟩
        clear f0 f1 ff fl nc PY
        go_wp2
        rw [rounds_succ]
        generalize hcap2 : (Question.appendCap 1 0 24).cut (wc.tape wc.drawn (Question.appendCap 1 0 24)) = cap2
        have HCP2 : Hid (1 ≤ cap2) := Lib.hid (by rw [← hcap2]; exact Nat.le_add_right _ _)
        clear hcap2
        have HA := Lib.hid (boxes2 (wc.setCell ⟨fb, 0, none⟩ (.bool true)) (.cells #[.slice (some ⟨N, 0, none⟩) 1 cap] 24) (.cells (#[.slice (some ⟨N, 0, none⟩) 1 cap] ++ Builtin.zeroCells #[.slice none 0 0] (cap2 - 1)) 24)).drew
        have hsz : (wc.setCell ⟨fb, 0, none⟩ (.bool true)).heap.size = wc.heap.size := by simp [World.setCell]
        have OC : Hid ((((wc.setCell ⟨fb, 0, none⟩ (.bool true)).alloc (.cells #[.slice (some ⟨N, 0, none⟩) 1 cap] 24)).alloc (.cells (#[.slice (some ⟨N, 0, none⟩) 1 cap] ++ Builtin.zeroCells #[.slice none 0 0] (cap2 - 1)) 24)).drew.cell? ⟨wc.heap.size + 1, 0, none⟩ = some (.slice (some ⟨N, 0, none⟩) 1 cap)) := Lib.hid (by simp [go_sem]; rw [Array.getElem?_append_left (by simp)]; rfl)
        have OL : Hid (wc.heap.size + 1 < (((wc.setCell ⟨fb, 0, none⟩ (.bool true)).alloc (.cells #[.slice (some ⟨N, 0, none⟩) 1 cap] 24)).alloc (.cells (#[.slice (some ⟨N, 0, none⟩) 1 cap] ++ Builtin.zeroCells #[.slice none 0 0] (cap2 - 1)) 24)).drew.heap.size) := Lib.hid (by simp)
        have KW := Lib.hid (KW.out.trans (HA.out.mono KW.out.size))
        have OF := Lib.hid (OF.out.below HA.out OF.out.lt)
        have ON := Lib.hid (ON.out.below HA.out ON.out.lt)
        have NC := Lib.hid (bel1 HA.out NC.out NL.out)
        have NL := Lib.hid (Nat.lt_of_lt_of_le NL.out HA.out.size)
        clear HA hsz OFL
        generalize hO : wc.heap.size + 1 = O at *
        generalize (((wc.setCell ⟨fb, 0, none⟩ (.bool true)).alloc (.cells #[.slice (some ⟨N, 0, none⟩) 1 cap] 24)).alloc (.cells (#[.slice (some ⟨N, 0, none⟩) 1 cap] ++ Builtin.zeroCells #[.slice none 0 0] (cap2 - 1)) 24)).drew = wB at *
        obtain ⟨c0, c3, ht0, ht1⟩ := keepS.out _ KW.out
        go_wp2_with (first
          | (go_at_call 71; (with_reducible refine (solve_l1 b _ _ _ _ (HM.out.mono KW.out (Nat.le_refl _)) fb nb 2 2 OF.out.bools ON.out.bools).mono ?_); rintro e w5 ⟨g5, rfl, hr5, hb5⟩; have KW := Lib.hid (KW.out.trans (hb5.mono KW.out.size)); have OF := Lib.hid (OF.out.below hb5 OF.out.lt); have OC := Lib.hid (bel1 hb5 OC.out OL.out); have NC := Lib.hid (bel1 hb5 NC.out NL.out); have OL := Lib.hid (Nat.lt_of_lt_of_le OL.out hb5.size); have NL := Lib.hid (Nat.lt_of_lt_of_le NL.out hb5.size); have PY := Lib.hid hr5; clear hr5 c0 c3 ht0 ht1; obtain ⟨c0, c3, ht0, ht1⟩ := keepS.out _ KW.out))
        obtain ⟨f0, f1, ff, fl⟩ := OF.out
        refine wp_loop_rounds 3 ?_
        rw [rounds_succ]
        go_wp2
        have KC : Hid (Below w5.heap.size w5 w5) := Lib.hid (Below.refl _ _)
        have keepR : Hid (∀ w', Below w5.heap.size w5 w' → w'.cell? ⟨fb, 0, none⟩ = some (.bool true)) := Lib.hid (fun w' hb => bel1 hb OF.out.c0 OF.out.lt)
        go_cut [53] (fun v53 wx => v53 = .bool false ∧ Hid (Below w5.heap.size w5 wx))
        case first =>
          go_quiet (fail)
          all_goals
            go_wp2_with fail
            go_meet
            case rel => exact ⟨rfl, Lib.hid ((Drawn.of _ _).below _)⟩
        case rest =>
          obtain ⟨rfl, KC⟩ := hcut
          have KW := Lib.hid (KW.out.trans (KC.out.mono KW.out.size))
          have OF := Lib.hid (OF.out.below KC.out OF.out.lt)
          have OC := Lib.hid (bel1 KC.out OC.out OL.out)
          have NC := Lib.hid (bel1 KC.out NC.out NL.out)
          have OL := Lib.hid (Nat.lt_of_lt_of_le OL.out KC.out.size)
          have NL := Lib.hid (Nat.lt_of_lt_of_le NL.out KC.out.size)
          have PY := Lib.hid (PY.out.mono KC.out (Nat.le_refl _))
          clear KC keepR c0 c3 ht0 ht1 f0 f1 ff fl
          generalize hwD : wc = wD at *
          clear hwD
          obtain ⟨c0, c3, ht0, ht1⟩ := keepS.out _ KW.out
          go_wp2
          rw [rounds_succ]
          go_wp2
          have KC : Hid (Below wD.heap.size wD wD) := Lib.hid (Below.refl _ _)
          have keepR : Hid (∀ w', Below wD.heap.size wD w' → w'.cell? ⟨fb, 1, none⟩ = some (.bool false) ∧ w'.cell? ⟨b, 3, none⟩ = some (.slice ta 2 tc) ∧ w'.cell? ⟨tb, t_o + 1, none⟩ = some (.int .i64 2)) :=
            Lib.hid (fun w' hb => ⟨bel1 hb OF.out.c1 OF.out.lt, bel1 hb (keepS.out _ KW.out).2.1 (Nat.lt_of_lt_of_le hlt KW.out.size), bel1 hb (keepS.out _ KW.out).2.2.2 (Nat.lt_of_lt_of_le htl KW.out.size)⟩)
          go_cut [53] (fun v53 wx => v53 = .bool false ∧ Hid (Below wD.heap.size wD wx))
          case first =>
            have KC0 := KC
            have KC := Lib.hid KC.out.drew
            go_region_held3 (fun w' => w'.cell? ⟨fb, 1, none⟩ = some (.bool false) ∧ w'.cell? ⟨b, 3, none⟩ = some (.slice ta 2 tc) ∧ w'.cell? ⟨tb, t_o + 1, none⟩ = some (.int .i64 2))
              (first | (with_reducible exact keepR.out _ KC0.out) | (with_reducible exact keepR.out _ KC.out))
              (first
              | (go_at_call 51; (with_reducible refine (has_l1 b _ _ _ _ (HM.out.mono (KW.out.trans (KC.out.mono KW.out.size)) (Nat.le_refl _)) g5 2 (twoQ 3 2) 5120 (PY.out.mono KC.out (Nat.le_refl _)) (by omega) (by omega) 3 has_32_1).mono ?_); rintro e wa ⟨ra, rfl, hra, hba⟩; obtain ⟨sa, aa, na, ea, ba, ma, da, rfl, KH⟩ := hra.shape; clear hra; (try have KT := Lib.hid (KT.out.mono hba (Nat.le_refl _))); have KC := Lib.hid (KC.out.trans (hba.mono KC.out.size)))
              | (go_at_call 59; (with_reducible refine (rat_whole 2 (by omega) (by omega) _).mono ?_); rintro e wt ⟨rt, rfl, hrt, hbt⟩; obtain ⟨st, at_, nt, et, bt, mt, dt, rfl, KT⟩ := hrt.shape; clear hrt; (try have KH := Lib.hid (KH.out.mono hbt (Nat.le_refl _))); have KC := Lib.hid (KC.out.trans (hbt.mono KC.out.size)))
              | (go_at_call 62; (with_reducible refine (rat_cmp_val _ _ 3 ((2 : Int) : Rat) 2621952 _ (1) KH.out (KT.out.le (by omega)) (by omega) (by decide +kernel)).mono ?_); rintro e wc ⟨rfl, hbc⟩; have KC := Lib.hid (KC.out.trans (hbc.mono KC.out.size))))
            all_goals
              go_wp2_with fail
              go_meet
              case rel => exact ⟨rfl, KC⟩
          case rest =>
            obtain ⟨rfl, KC⟩ := hcut
            have KW := Lib.hid (KW.out.trans (KC.out.mono KW.out.size))
            have OC := Lib.hid (bel1 KC.out OC.out OL.out)
            have NC := Lib.hid (bel1 KC.out NC.out NL.out)
            have OL := Lib.hid (Nat.lt_of_lt_of_le OL.out KC.out.size)
            have NL := Lib.hid (Nat.lt_of_lt_of_le NL.out KC.out.size)
            have PY := Lib.hid (PY.out.mono KC.out (Nat.le_refl _))
            clear KC keepR c0 c3 ht0 ht1
            obtain ⟨c0, c3, ht0, ht1⟩ := keepS.out _ KW.out
            go_wp2
            rw [rounds_succ]
            go_wp2
            go_ret2
            exact ⟨O, cap2, N, cap, g5, rfl, OC.out, NC.out, PY.out, KW.out, OL.out, NL.out, HCP2.out, HCP.out⟩
end Go.Proofs.YtgmopcncbpdniaaGreat

/- Num of Rat at a whole number of one digit; Nums of package linear at the payments of the example. -/
set_option linter.unusedVariables false
set_option linter.unusedSimpArgs false
namespace Go.Proofs.YtgmopcncbpdniaaGreat
open Go.RowKit
attribute [local go_sem ↓] Go.wp_at_zero Go.wp_at_succ
theorem own_below {w w' : World} {base B e size n : Nat} {v : Value} {xs : List Value} (h : w.ownsRow base e size v n xs) (hb : Below B w w') (hB : w.heap.size ≤ B := by exact Nat.le_refl _) : w'.ownsRow base e size v n xs :=
  h.kept (row := none) ⟨hb.os, hb.tape, hb.output, hb.size, fun k hk _ => hb.block k (Nat.lt_of_lt_of_le hk hB)⟩ (by
    rcases hh : v.ownBlock with _ | g
    · exact .inl rfl
    · exact .inr (by intro e; cases e))
/-- the text of a digit -/
def digS (N : Nat) : ByteArray := ⟨#[48 + UInt8.ofNat N]⟩
theorem digS_size (N : Nat) : (digS N).size = 1 := rfl
set_option maxHeartbeats 1000000 in
set_option maxRecDepth 100000 in
theorem rat_num_small (x : Value) (q : Rat) (k N : Nat) (w : World) (hx : RatIs w x q k) (hq : q.num = (N : Int)) (hd : q.den = 1) (h0 : 0 < N) (h9 : N < 10) :
    Calls Tryz.prog 72 #[x] w fun e w' => e = .returned (.tuple #[.string (digS N), .int .i64 0]) ∧ Below w.heap.size w w' := by
  have hx0 := hx
  obtain ⟨u, d, rfl, ⟨a1, b1, o1, c1, rfl, i1⟩, ⟨a2, b2, o2, c2, rfl, i2⟩, h3, h4⟩ := hx
  have e1 : q.num.natAbs = N := by omega
  have e2 : decide (q.num < 0) = false := by rw [hq]; simp
  rw [e1, e2, hd] at hx0
  rw [e1] at i1 h3
  rw [e1, e2, hd]
  have hM : Mag w (.slice a1 (nl N) c1) N := ⟨a1, b1, o1, c1, rfl, i1⟩
  have KW := Lib.hid (boxes1 w (.cells #[.bool false, .slice a1 (nl N) c1, .bool false, .slice a2 (nl 1) c2] 92))
  have HM := Lib.hid (hM.mono KW.out (Nat.le_refl _))
  have HX := Lib.hid (hx0.mono KW.out (Nat.le_refl _))
  have PO := Lib.hid (own4_new w _ rfl (.bool false) (.slice a1 (nl N) c1) (.bool false) (.slice a2 (nl 1) c2) 92)
  have hsz := digS_size N
  have HD : Hid (decide (q.den = 1) = true) := Lib.hid (by simpa using hd)
  clear hx0 hM i1 i2 h3 h4 hq hd e1 e2
  go_enter Tryz.func72, Tryz.ntmps72
  go_wp2_with (first
    | (go_at_call 108; (with_reducible refine (text_small _ N _ HM.out h0 h9).mono ?_); rintro e w1 ⟨rfl, hb1⟩; rw [show (⟨#[48 + UInt8.ofNat N]⟩ : ByteArray) = digS N from rfl]; have KW := Lib.hid (KW.out.trans (hb1.mono KW.out.size)); have HX := Lib.hid (HX.out.mono hb1 (Nat.le_refl _)); have PO := Lib.hid (PO.out.below hb1 PO.out.lt); clear hb1; obtain ⟨x0, x1, x2, x3, _, _⟩ := PO.out)
    | (go_at_call 96; (with_reducible refine (rat_integer _ q k _ true HD.out HX.out).mono ?_); rintro e w2 ⟨rfl, hb2⟩; have KW := Lib.hid (KW.out.trans (hb2.mono KW.out.size))))
  go_ret2
  exact ⟨rfl, KW.out⟩
theorem infoN : (Tryz.prog.info? 63).map (fun i => (i.zero, i.size, i.bytes)) = some (some (.string ByteArray.empty), 1, 16) := by kernel_rfl
/-- the texts of digits, as a list of cells -/
def strs (N : Nat → Nat) (n : Nat) : List Value := (List.range n).map (fun i => .string (digS (N i)))
theorem strs_get (N : Nat → Nat) (n i : Nat) (h : i < n) : (strs N n)[i]? = some (.string (digS (N i))) := by simp [strs, h]
theorem strs_succ (N : Nat → Nat) (n : Nat) : strs N n ++ [.string (digS (N n))] = strs N (n + 1) := by simp [strs, List.range_succ]
set_option maxHeartbeats 2000000 in
set_option maxRecDepth 100000 in
theorem nums_small (pb n pc : Nat) (q : Nat → Rat) (N : Nat → Nat) (K : Nat) (w : World) (hp : IsRats w pb 0 n q K) (hn : n ≤ 8) (hN : ∀ j, j < n → (q j).num = (N j : Int) ∧ (q j).den = 1 ∧ 0 < N j ∧ N j < 10) :
    Calls Tryz.prog 40 #[.slice (some ⟨pb, 0, none⟩) n pc] w fun e w' => ∃ v, e = .returned (.tuple #[v, .int .i64 0]) ∧ Sl w' v n (fun j => .string (digS (N j))) ∧ Below w.heap.size w w' := by
  have HP := Lib.hid hp
  have HN := Lib.hid hN
  obtain ⟨i0, hi, hz0, hz1, hz2⟩ := info_parts infoN
  have KW0 := Lib.hid (Below.refl w.heap.size w)
  clear hp hN
  go_enter Tryz.func40, Tryz.ntmps40
  go_wp2
  go_loopw [4, 11] (fun v4 v11 wr => ∃ k : Nat, k ≤ n ∧ v11 = .int .i64 (k : Nat) ∧ ∃ va vk, v4 = .slice va k vk ∧ Hid (wr.ownsRow w.heap.size 63 1 (.slice va k vk) k (strs N k)) ∧ Hid (Below w.heap.size w wr)) (fun _ v11 _ => n - (intOf v11).toNat)
  case atStart => exact ⟨0, by omega, rfl, none, 0, rfl, Lib.hid (World.ownsRow_nil _ _ _ _), KW0⟩
  case round =>
    clear KW0
    obtain ⟨k, hk, rfl, va, vk, rfl, OW, KW⟩ := hrel
    by_cases h : k < n
    · obtain ⟨s, a, m, c, a2, m2, c2, PP, KP⟩ := (HP.out.mono KW.out (Nat.le_refl _)) k h
      rw [Nat.zero_add] at PP
      obtain ⟨x0, x1, x2, x3, xl⟩ := PP
      have ixr := fun W => rowIx pb n pc k h W
      have HX := Lib.hid (KP.mono (boxes1 wr (.cells #[.bool s, .slice a m c, .bool false, .slice a2 m2 c2] 92)) (Nat.le_refl _))
      have KW1 := Lib.hid (KW.out.alloc KW.out.size (.cells #[.bool s, .slice a m c, .bool false, .slice a2 m2 c2] 92))
      have OW1 := Lib.hid (OW.out.alloc (.cells #[.bool s, .slice a m c, .bool false, .slice a2 m2 c2] 92))
      have HNk := Lib.hid (HN.out k h)
      clear KP
      go_wp2_with (first
        | (go_at_call 72; (with_reducible refine (rat_num_small _ (q k) K (N k) _ HX.out HNk.out.1 HNk.out.2.1 HNk.out.2.2.1 HNk.out.2.2.2).mono ?_); rintro e w2 ⟨rfl, hb2⟩; have KW2 := Lib.hid (KW1.out.trans (hb2.mono KW1.out.size)); have OW2 := Lib.hid (own_below OW1.out hb2); have HB2 := Lib.hid (Nat.le_trans KW1.out.size hb2.size); clear hb2)
        | (at_builtin; refine wpList_append_own _ rfl (.tmp 23) (.tmp 25) 28 rfl w.heap.size 63 i0 (.string ByteArray.empty) 1 16 Tryz.underlying28 hi hz0 hz1 hz2 rfl (by decide) (.slice va k vk) k (strs N k) rfl (OW2.out.alloc _) ⟨w2.heap.size, 0, none⟩ 1 1 [.string (digS (N k))] rfl rfl (new1 _ _ _) (one1 _ rfl) (by unfold maxLen; omega) (by omega) (by have := HB2.out; simp; omega) ?_; intro v' w3 hown hgrow _; have hbk := (OW2.out.alloc (.cells #[.string (digS (N k))] 63)).lt; have KW3 := Lib.hid ((KW2.out.alloc KW2.out.size _).grown hgrow (by have := HB2.out; simp; omega) (fun kk e => (hbk kk e).1)); rw [strs_succ] at hown; obtain ⟨va', vk', rfl⟩ := own_shape hown; have OW3 := Lib.hid hown; clear hown hgrow hbk))
      go_roundw
      case rel => exact ⟨k + 1, by omega, by go_num, va', vk', rfl, OW3, KW3⟩
      case measure => simp [intOf]; omega
    · obtain rfl : k = n := by omega
      go_wp2
      go_ret2
      exact ⟨_, rfl, Sl.of_own OW.out (fun i hi => strs_get N k i hi), KW.out⟩
end Go.Proofs.YtgmopcncbpdniaaGreat

/- debt.members, debt.balanced, slices.Compare. -/
set_option linter.unusedVariables false
set_option linter.unusedSimpArgs false
namespace Go.Proofs.YtgmopcncbpdniaaGreat
open Go.RowKit
attribute [local go_sem ↓] Go.wp_at_zero Go.wp_at_succ
/-- the bits of s below i -/
def mem (s i : Nat) : List Nat := (List.range i).filter (fun t => s.testBit t)
def intC (l : List Nat) : List Value := l.map (fun t => .int .i64 (t : Nat))
theorem i64_and1 (n : Int) : bits .and .i64 n 1 = n % 2 := by
  have h1 : (BitVec.ofInt 64 1).toNat = 2 ^ 1 - 1 := by decide
  have key : (BitVec.ofInt 64 n &&& BitVec.ofInt 64 1).toNat = (n % ((2 ^ 64 : Nat) : Int)).toNat % 2 ^ 1 := by
    rw [BitVec.toNat_and, BitVec.toNat_ofInt, h1, Nat.and_two_pow_sub_one_eq_mod]
  show IntKind.i64.wrap ((BitVec.ofInt 64 n &&& BitVec.ofInt 64 1).toNat : Nat) = n % 2
  rw [key, IntKind.wrap_i64]
  omega
theorem mem_succ (s i : Nat) : mem s (i + 1) = mem s i ++ if s.testBit i then [i] else [] := by
  unfold mem
  rw [List.range_succ, List.filter_append]
  congr 1
  by_cases h : s.testBit i <;> simp [h]
theorem mem_done (s i : Nat) (h : s < 2 ^ i) : ∀ k, mem s (i + k) = mem s i
  | 0 => rfl
  | k + 1 => by
    rw [← Nat.add_assoc, mem_succ, mem_done s i h k]
    have h2 : s < 2 ^ (i + k) := Nat.lt_of_lt_of_le h (Nat.pow_le_pow_right (by omega) (by omega))
    rw [Nat.testBit_lt_two_pow h2]
    simp
theorem mem_len (s : Nat) : ∀ i, (mem s i).length ≤ i
  | 0 => by simp [mem]
  | i + 1 => by
    rw [mem_succ, List.length_append]
    have := mem_len s i
    split <;> simp <;> omega
theorem intC_app (l : List Nat) (i : Nat) : intC l ++ [.int .i64 (i : Nat)] = intC (l ++ [i]) := by simp [intC]
set_option maxHeartbeats 2000000 in
set_option maxRecDepth 100000 in
theorem members_any (s : Nat) (w : World) (hs : s < 1024) :
    Calls Tryz.prog 77 #[.int .i64 (s : Nat)] w fun e w' => ∃ va vk, e = .returned (.slice va (mem s 10).length vk) ∧ w'.ownsRow w.heap.size 3 1 (.slice va (mem s 10).length vk) (mem s 10).length (intC (mem s 10)) ∧ Below w.heap.size w w' := by
  obtain ⟨i0, hinf, hz0, hz1, hz2⟩ := info_parts infoI
  have KW0 := Lib.hid (Below.refl w.heap.size w)
  go_enter Tryz.func77, Tryz.ntmps77
  go_wp2
  go_loopw [3, 4] (fun v3 v4 wr => ∃ i : Nat, i ≤ 10 ∧ v4 = .int .i64 (i : Nat) ∧ ∃ va vk, v3 = .slice va (mem s i).length vk ∧ Hid (wr.ownsRow w.heap.size 3 1 (.slice va (mem s i).length vk) (mem s i).length (intC (mem s i))) ∧ Hid (Below w.heap.size w wr)) (fun _ v4 _ => 10 - (intOf v4).toNat)
  case atStart => exact ⟨0, by omega, rfl, none, 0, rfl, Lib.hid (World.ownsRow_nil _ _ _ _), KW0⟩
  case round =>
    clear KW0
    obtain ⟨i, hi, rfl, va, vk, rfl, OW, KW⟩ := hrel
    have hdiv : (s : Int) / 2 ^ i = ((s / 2 ^ i : Nat) : Int) := by simp
    by_cases hq : s / 2 ^ i = 0
    · have d1 : decide ((0 : Int) < (s : Int) / 2 ^ i) = false := by rw [hdiv, hq]; rfl
      have hlt : s < 2 ^ i := (Nat.div_eq_zero_iff_lt (Nat.two_pow_pos i)).1 hq
      have hm := mem_done s i hlt (10 - i)
      rw [show i + (10 - i) = 10 by omega] at hm
      have HM := Lib.hid hm
      clear hm hdiv
      go_wp2
      go_ret
      rw [HM.out]
      exact ⟨va, vk, rfl, OW.out, KW.out⟩
    · have hi10 : i < 10 := by
        rcases Nat.lt_or_ge i 10 with h | h
        · exact h
        · exact absurd (Nat.div_eq_of_lt (Nat.lt_of_lt_of_le hs (Nat.pow_le_pow_right (n := 2) (by omega) h))) hq
      have d1 : decide ((0 : Int) < (s : Int) / 2 ^ i) = true := decide_eq_true (by rw [hdiv]; exact Int.natCast_pos.2 (Nat.pos_of_ne_zero hq))
      have hbit : (bits .and .i64 ((s : Int) / 2 ^ i) 1 == 1) = s.testBit i := by
        rw [i64_and1, hdiv, Nat.testBit_eq_decide_div_mod_eq]
        by_cases h : s / 2 ^ i % 2 = 1
        · rw [decide_eq_true h]
          have : (((s / 2 ^ i : Nat) : Int) % 2) = 1 := by omega
          rw [this]; rfl
        · rw [decide_eq_false h]
          have : (((s / 2 ^ i : Nat) : Int) % 2) = 0 := by omega
          rw [this]; rfl
      have HSZ := Lib.hid KW.out.size
      have HBK := Lib.hid OW.out.lt
      have HLN := Lib.hid (mem_len s i)
      have hms := mem_succ s i
      clear hdiv hq
      by_cases hb : s.testBit i = true
      · rw [hb] at hbit
        rw [hb, if_pos rfl] at hms
        have HMS := Lib.hid hms
        clear hms hb
        go_wp2_with (at_builtin; refine wpList_append_own _ rfl (.tmp 16) (.tmp 18) 24 rfl w.heap.size 3 i0 (.int .i64 0) 1 8 Tryz.underlying24 hinf hz0 hz1 hz2 rfl (by decide) (.slice va (mem s i).length vk) (mem s i).length (intC (mem s i)) rfl (OW.out.alloc _) ⟨wr.heap.size, 0, none⟩ 1 1 [.int .i64 (i : Nat)] rfl rfl (new1 wr (.int .i64 (i : Nat)) 3) (one1 _ rfl) (by have := HLN.out; unfold maxLen; omega) (by have := HLN.out; omega) (by simp; have := HSZ.out; omega) ?_; intro v' w5 hown hgrow _; have KW := Lib.hid ((KW.out.alloc KW.out.size _).grown hgrow (by have := HSZ.out; simp; omega) (fun kk e => (HBK.out kk e).1)); rw [intC_app, ← HMS.out] at hown; obtain ⟨va', vk', rfl⟩ := own_shape hown; have OW := Lib.hid hown; clear hown hgrow)
        go_roundw
        case rel =>
          have hl : (mem s (i + 1)).length = (mem s i).length + 1 := by rw [HMS.out]; simp
          exact ⟨i + 1, by omega, by go_num, va', vk', by rw [hl], by rw [hl]; exact OW, KW⟩
        case measure => simp [intOf]; omega
      · have hb2 : s.testBit i = false := by simpa using hb
        rw [hb2] at hbit hms
        have hms2 : mem s (i + 1) = mem s i := by simpa using hms
        have HMS := Lib.hid hms2
        clear hms hms2 hb hb2
        go_wp2
        go_roundw
        case rel => exact ⟨i + 1, by omega, by go_num, va, vk, by rw [HMS.out], by rw [HMS.out]; exact OW, KW⟩
        case measure => simp [intOf]; omega
end Go.Proofs.YtgmopcncbpdniaaGreat
