/- rounds of package debt at the document's example. -/
import Derived.Test.YtgmopcncbpdniaaQLive1
import Derived.Laws.Cover3
set_option linter.unusedVariables false
set_option linter.unusedSimpArgs false
namespace Go.Proofs.Ytgmopcncbpdniaa
open Go.RowKit
attribute [local go_sem ↓] Go.wp_at_zero Go.wp_at_succ

theorem Own2.bools {w : World} {b : Nat} {x y : Bool} (h : Own2 w b (.bool x) (.bool y)) : Bools2 w b x y := ⟨h.c0, h.c1, h.lt⟩

theorem eql_nil_some (x : Addr) (l c : Nat) (W : World) : (binOp .eql 23 (.slice (some x) l c) (.slice none 0 0)).run Try.prog W = .ok (.bool false) W :=
  by
  simp only [binOp]
  simp [run_equal_slice_nil W 23 3 (some x) l c Try.underlying23]
theorem eql_nil_none (W : World) : (binOp .eql 23 (.slice none 0 0) (.slice none 0 0)).run Try.prog W = .ok (.bool true) W :=
  by
  simp only [binOp]
  simp [run_equal_slice_nil W 23 3 none 0 0 Try.underlying23]
theorem rat_cmp_val (x y : Value) (a b : Rat) (k : Nat) (w : World) (c : Int) (hx : RatIs w x a k) (hy : RatIs w y b k) (hk : 2 * k ≤ 549755813888) (hc : cmpQ a b = c) :
    Calls Try.prog 52 #[x, y] w fun e w' => e = .returned (.int .i64 c) ∧ Below w.heap.size w w' := by
  subst hc
  exact rat_cmp x y a b k w hx hy hk

set_option maxHeartbeats 8000000 in
set_option maxRecDepth 100000 in
theorem rounds_live (b : Nat) (vc vd vt : Value) (w : World) (hm : IsMkt w b 2 cashL dL vc vd vt) :
    Calls Try.prog 40 #[.pointer (some ⟨b, 0, none⟩)] w fun e w' => ∃ o oc n nc g, e = .returned (.tuple #[.slice (some ⟨o, 0, none⟩) 1 oc, .slice (some ⟨g, 0, none⟩) 2 2]) ∧
      w'.cell? ⟨o, 0, none⟩ = some (.slice (some ⟨n, 0, none⟩) 1 nc) ∧ w'.cell? ⟨n, 0, none⟩ = some (.int .i64 0) ∧ IsRats w' g 0 2 (twoQ 3 2) 5120 ∧ Below w.heap.size w w' ∧ o < w'.heap.size ∧ n < w'.heap.size ∧ 1 ≤ oc ∧ 1 ≤ nc := by
  have HM := Lib.hid hm
  obtain ⟨c0, c1, c2, c3, hcash, hdebt, ⟨ta, tb, t_o, tc, rfl, hts⟩, hlt⟩ := hm
  have ixt0 := fun W => ixI hts 0 tc (by omega) W
  have ixt1 := fun W => ixI hts 1 tc (by omega) W
  have ht0 := hts.cell 0 (by omega)
  have ht1 := hts.cell 1 (by omega)
  have htl := hts.lt (by omega)
  simp only [ic, dL_tot0, dL_tot1, Nat.add_zero] at ht0 ht1
  simp only [Int.natCast_zero, Int.natCast_one, Nat.add_zero] at ixt0 ixt1
  have keepS : Hid (∀ w', Below w.heap.size w w' → w'.cell? ⟨b, 0, none⟩ = some (.int .i64 2) ∧ w'.cell? ⟨b, 3, none⟩ = some (.slice ta 2 tc) ∧ w'.cell? ⟨tb, t_o, none⟩ = some (.int .i64 4) ∧ w'.cell? ⟨tb, t_o + 1, none⟩ = some (.int .i64 2)) :=
    Lib.hid (fun w' hb => ⟨bel1 hb c0 hlt, bel1 hb c3 hlt, bel1 hb ht0 htl, bel1 hb ht1 htl⟩)
  have hmk := mkB2
  have heq1 := eql_nil_some
  have heq2 := eql_nil_none
  have KW0 : Hid (Below w.heap.size w w) := Lib.hid (Below.refl _ _)
  clear c0 c1 c2 c3 ht0 ht1 hcash hdebt hts
  obtain ⟨c0, c3, ht0, ht1⟩ := keepS.out _ KW0.out
  go_enter Try.func40, Try.ntmps40
  go_wp2
  go_cut [4, 5] (fun v4 v5 wx => ∃ fb nb : Nat, v4 = .slice (some ⟨fb, 0, none⟩) 2 2 ∧ v5 = .slice (some ⟨nb, 0, none⟩) 2 2 ∧ Hid (Own2 wx fb (.bool false) (.bool false)) ∧ Hid (Own2 wx nb (.bool false) (.bool false)) ∧ fb ≠ nb ∧ w.heap.size ≤ fb ∧ w.heap.size ≤ nb ∧ Hid (Below w.heap.size w wx))
  case first =>
    go_region
    all_goals
      go_wp2_with fail
      go_meet
      case rel =>
        first
        | exact ⟨_, _, rfl, rfl, Lib.hid ((own2_new _ _ rfl _ _ _).alloc _).drew, Lib.hid (own2_new _ _ (by simp) _ _ _).drew, by omega, by omega, by omega, Lib.hid (boxes2 _ _ _).drew⟩
        | exact ⟨_, _, rfl, rfl, Lib.hid (own2_new _ _ (by simp) _ _ _).drew, Lib.hid ((own2_new _ _ rfl _ _ _).alloc _).drew, by omega, by omega, by omega, Lib.hid (boxes2 _ _ _).drew⟩
  case rest =>
    obtain ⟨fb, nb, rfl, rfl, OF, ON, hne, hfb, hnb, KW⟩ := hcut
    clear c0 c3 ht0 ht1
    obtain ⟨c0, c3, ht0, ht1⟩ := keepS.out _ KW.out
    go_wp2
    refine wp_loop_rounds 3 ?_
    rw [rounds_succ]
    go_wp2_with (first
      | (go_at_call 50; (with_reducible refine (solve_l0 b _ _ _ _ (HM.out.mono KW.out (Nat.le_refl _)) fb nb 2 2 OF.out.bools ON.out.bools).mono ?_); rintro e w1 ⟨g1, rfl, hr1, hb1⟩; have KW := Lib.hid (KW.out.trans (hb1.mono KW.out.size)); have OF := Lib.hid (OF.out.below hb1 OF.out.lt); have ON := Lib.hid (ON.out.below hb1 ON.out.lt); have PY := Lib.hid hr1; have OFL := Lib.hid OF.out.lt; clear hr1 c0 c3 ht0 ht1; obtain ⟨c0, c3, ht0, ht1⟩ := keepS.out _ KW.out))
    refine wp_loop_rounds 3 ?_
    rw [rounds_succ]
    go_wp2
    have KC : Hid (Below w1.heap.size w1 w1) := Lib.hid (Below.refl _ _)
    have keepR : Hid (∀ w', Below w1.heap.size w1 w' → w'.cell? ⟨fb, 0, none⟩ = some (.bool false) ∧ w'.cell? ⟨b, 3, none⟩ = some (.slice ta 2 tc) ∧ w'.cell? ⟨tb, t_o, none⟩ = some (.int .i64 4)) :=
      Lib.hid (fun w' hb => ⟨bel1 hb OF.out.c0 OF.out.lt, bel1 hb (keepS.out _ KW.out).2.1 (Nat.lt_of_lt_of_le hlt KW.out.size), bel1 hb (keepS.out _ KW.out).2.2.1 (Nat.lt_of_lt_of_le htl KW.out.size)⟩)
    go_cut [53] (fun v53 wx => v53 = .bool true ∧ Hid (Below w1.heap.size w1 wx))
    case first =>
      have KC0 := KC
      have KC := Lib.hid KC.out.drew
      go_region_held3 (fun w' => w'.cell? ⟨fb, 0, none⟩ = some (.bool false) ∧ w'.cell? ⟨b, 3, none⟩ = some (.slice ta 2 tc) ∧ w'.cell? ⟨tb, t_o, none⟩ = some (.int .i64 4))
        (first | (with_reducible exact keepR.out _ KC0.out) | (with_reducible exact keepR.out _ KC.out))
        (first
        | (go_at_call 51; (with_reducible refine (has_l0 b _ _ _ _ (HM.out.mono (KW.out.trans (KC.out.mono KW.out.size)) (Nat.le_refl _)) g1 2 (twoQ 4 2) 4 (PY.out.mono KC.out (Nat.le_refl _)) (by omega) (by omega) 3 has_42_0).mono ?_); rintro e wa ⟨ra, rfl, hra, hba⟩; obtain ⟨sa, aa, na, ea, ba, ma, da, rfl, KH⟩ := hra.shape; clear hra; (try have KT := Lib.hid (KT.out.mono hba (Nat.le_refl _))); have KC := Lib.hid (KC.out.trans (hba.mono KC.out.size)))
        | (go_at_call 53; (with_reducible refine (rat_whole 4 (by omega) (by omega) _).mono ?_); rintro e wt ⟨rt, rfl, hrt, hbt⟩; obtain ⟨st, at_, nt, et, bt, mt, dt, rfl, KT⟩ := hrt.shape; clear hrt; (try have KH := Lib.hid (KH.out.mono hbt (Nat.le_refl _))); have KC := Lib.hid (KC.out.trans (hbt.mono KC.out.size)))
        | (go_at_call 52; (with_reducible refine (rat_cmp_val _ _ 3 ((4 : Int) : Rat) 2560 _ (-1) KH.out (KT.out.le (by omega)) (by omega) (by decide +kernel)).mono ?_); rintro e wc ⟨rfl, hbc⟩; have KC := Lib.hid (KC.out.trans (hbc.mono KC.out.size))))
      all_goals
        go_wp2_with fail
        go_meet
        case rel => exact ⟨rfl, KC⟩
    case rest =>
      obtain ⟨rfl, KC⟩ := hcut
      go_wp2
      rw [rounds_succ]
      generalize hcap : (Question.appendCap 1 0 3).cut (wc.tape wc.drawn (Question.appendCap 1 0 3)) = cap
      have HCP : Hid (1 ≤ cap) := Lib.hid (by rw [← hcap]; exact Nat.le_add_right _ _)
      clear hcap
      have HA := Lib.hid (boxes2 wc (.cells #[.int .i64 0] 3) (.cells (#[.int .i64 0] ++ Builtin.zeroCells #[.int .i64 0] (cap - 1)) 3)).drew
      have NC : Hid ((((wc.alloc (.cells #[.int .i64 0] 3)).alloc (.cells (#[.int .i64 0] ++ Builtin.zeroCells #[.int .i64 0] (cap - 1)) 3)).drew).cell? ⟨wc.heap.size + 1, 0, none⟩ = some (.int .i64 0)) := Lib.hid (by simp [go_sem]; rw [Array.getElem?_append_left (by simp)]; rfl)
      have NL : Hid (wc.heap.size + 1 < (((wc.alloc (.cells #[.int .i64 0] 3)).alloc (.cells (#[.int .i64 0] ++ Builtin.zeroCells #[.int .i64 0] (cap - 1)) 3)).drew).heap.size) := Lib.hid (by simp)
      have KA := Lib.hid (KC.out.trans (HA.out.mono KC.out.size))
      have KW := Lib.hid (KW.out.trans (KA.out.mono KW.out.size))
      have OF := Lib.hid (OF.out.below KA.out OF.out.lt)
      have ON := Lib.hid (ON.out.below KA.out ON.out.lt)
      have PY := Lib.hid (PY.out.mono KA.out (Nat.le_refl _))
      have hfN : fb < wc.heap.size + 1 := by have := OF.out.lt; have := KC.out.size; have h1 := OFL.out; omega
      have hnN : wc.heap.size + 1 ≠ fb := by omega
      generalize hN : wc.heap.size + 1 = N at *
      generalize (((wc.alloc (.cells #[.int .i64 0] 3)).alloc (.cells (#[.int .i64 0] ++ Builtin.zeroCells #[.int .i64 0] (cap - 1)) 3)).drew) = wA at *
      clear HA KA KC c0 c3 ht0 ht1 keepR hN
      obtain ⟨c0, c3, ht0, ht1⟩ := keepS.out _ KW.out
      go_wp2
      have KC : Hid (Below wA.heap.size wA wA) := Lib.hid (Below.refl _ _)
      have keepR : Hid (∀ w', Below wA.heap.size wA w' → w'.cell? ⟨fb, 1, none⟩ = some (.bool false) ∧ w'.cell? ⟨b, 3, none⟩ = some (.slice ta 2 tc) ∧ w'.cell? ⟨tb, t_o + 1, none⟩ = some (.int .i64 2)) :=
        Lib.hid (fun w' hb => ⟨bel1 hb OF.out.c1 OF.out.lt, bel1 hb (keepS.out _ KW.out).2.1 (Nat.lt_of_lt_of_le hlt KW.out.size), bel1 hb (keepS.out _ KW.out).2.2.2 (Nat.lt_of_lt_of_le htl KW.out.size)⟩)
      go_cut [53] (fun v53 wx => v53 = .bool false ∧ Hid (Below wA.heap.size wA wx))
      case first =>
        have KC0 := KC
        have KC := Lib.hid KC.out.drew
        go_region_held3 (fun w' => w'.cell? ⟨fb, 1, none⟩ = some (.bool false) ∧ w'.cell? ⟨b, 3, none⟩ = some (.slice ta 2 tc) ∧ w'.cell? ⟨tb, t_o + 1, none⟩ = some (.int .i64 2))
          (first | (with_reducible exact keepR.out _ KC0.out) | (with_reducible exact keepR.out _ KC.out))
          (first
          | (go_at_call 51; (with_reducible refine (has_l1 b _ _ _ _ (HM.out.mono (KW.out.trans (KC.out.mono KW.out.size)) (Nat.le_refl _)) g1 2 (twoQ 4 2) 4 (PY.out.mono KC.out (Nat.le_refl _)) (by omega) (by omega) 4 has_42_1).mono ?_); rintro e wa ⟨ra, rfl, hra, hba⟩; obtain ⟨sa, aa, na, ea, ba, ma, da, rfl, KH⟩ := hra.shape; clear hra; (try have KT := Lib.hid (KT.out.mono hba (Nat.le_refl _))); have KC := Lib.hid (KC.out.trans (hba.mono KC.out.size)))
          | (go_at_call 53; (with_reducible refine (rat_whole 2 (by omega) (by omega) _).mono ?_); rintro e wt ⟨rt, rfl, hrt, hbt⟩; obtain ⟨st, at_, nt, et, bt, mt, dt, rfl, KT⟩ := hrt.shape; clear hrt; (try have KH := Lib.hid (KH.out.mono hbt (Nat.le_refl _))); have KC := Lib.hid (KC.out.trans (hbt.mono KC.out.size)))
          | (go_at_call 52; (with_reducible refine (rat_cmp_val _ _ 4 ((2 : Int) : Rat) 2560 _ (1) KH.out (KT.out.le (by omega)) (by omega) (by decide +kernel)).mono ?_); rintro e wc ⟨rfl, hbc⟩; have KC := Lib.hid (KC.out.trans (hbc.mono KC.out.size))))
        all_goals
          go_wp2_with fail
          go_meet
          case rel => exact ⟨rfl, KC⟩
      case rest =>
        obtain ⟨rfl, KC⟩ := hcut
        go_wp2
        rw [rounds_succ]
        have KW := Lib.hid (KW.out.trans (KC.out.mono KW.out.size))
        have OF := Lib.hid (OF.out.below KC.out OF.out.lt)
        have ON := Lib.hid (ON.out.below KC.out ON.out.lt)
        have NC := Lib.hid (bel1 KC.out NC.out NL.out)
        have NL := Lib.hid (Nat.lt_of_lt_of_le NL.out KC.out.size)
        clear KC c0 c3 ht0 ht1 keepR
        obtain ⟨f0, f1, ff, fl⟩ := OF.out
        have nc := NC.out
        go_wp2
        refine wp_loop_rounds 2 ?_
        rw [rounds_succ]
        go_wp2
        rw [rounds_succ]
        have KW : Hid (Below w.heap.size w (wc.setCell ⟨fb, 0, none⟩ (.bool true))) := Lib.hid (KW.out.setCell hfb _)
        have ON : Hid (Own2 (wc.setCell ⟨fb, 0, none⟩ (.bool true)) nb (.bool false) (.bool false)) := Lib.hid (ON.out.setCell fb 0 _ hne)
        have NC : Hid ((wc.setCell ⟨fb, 0, none⟩ (.bool true)).cell? ⟨N, 0, none⟩ = some (.int .i64 0)) := Lib.hid ((far_set _ _ _ _ _ _ (Ne.symm hnN)).trans NC.out)
        have NL : Hid (N < (wc.setCell ⟨fb, 0, none⟩ (.bool true)).heap.size) := Lib.hid (by simp only [World.setCell, Array.size_modify]; exact NL.out)
        have OF : Hid (Own2 (wc.setCell ⟨fb, 0, none⟩ (.bool true)) fb (.bool true) (.bool false)) := Lib.hid ⟨self_set OF.out.c0, off_set (by decide) OF.out.c1, fun o => by rw [World.frozen?_setCell]; exact OF.out.f o, by simp only [World.setCell, Array.size_modify]; exact OF.out.lt⟩
        clear f0 f1 ff fl nc PY
        go_wp2
        rw [rounds_succ]
        generalize hcap2 : (Question.appendCap 1 0 23).cut (wc.tape wc.drawn (Question.appendCap 1 0 23)) = cap2
        have HCP2 : Hid (1 ≤ cap2) := Lib.hid (by rw [← hcap2]; exact Nat.le_add_right _ _)
        clear hcap2
        have HA := Lib.hid (boxes2 (wc.setCell ⟨fb, 0, none⟩ (.bool true)) (.cells #[.slice (some ⟨N, 0, none⟩) 1 cap] 23) (.cells (#[.slice (some ⟨N, 0, none⟩) 1 cap] ++ Builtin.zeroCells #[.slice none 0 0] (cap2 - 1)) 23)).drew
        have hsz : (wc.setCell ⟨fb, 0, none⟩ (.bool true)).heap.size = wc.heap.size := by simp [World.setCell]
        have OC : Hid ((((wc.setCell ⟨fb, 0, none⟩ (.bool true)).alloc (.cells #[.slice (some ⟨N, 0, none⟩) 1 cap] 23)).alloc (.cells (#[.slice (some ⟨N, 0, none⟩) 1 cap] ++ Builtin.zeroCells #[.slice none 0 0] (cap2 - 1)) 23)).drew.cell? ⟨wc.heap.size + 1, 0, none⟩ = some (.slice (some ⟨N, 0, none⟩) 1 cap)) := Lib.hid (by simp [go_sem]; rw [Array.getElem?_append_left (by simp)]; rfl)
        have OL : Hid (wc.heap.size + 1 < (((wc.setCell ⟨fb, 0, none⟩ (.bool true)).alloc (.cells #[.slice (some ⟨N, 0, none⟩) 1 cap] 23)).alloc (.cells (#[.slice (some ⟨N, 0, none⟩) 1 cap] ++ Builtin.zeroCells #[.slice none 0 0] (cap2 - 1)) 23)).drew.heap.size) := Lib.hid (by simp)
        have KW := Lib.hid (KW.out.trans (HA.out.mono KW.out.size))
        have OF := Lib.hid (OF.out.below HA.out OF.out.lt)
        have ON := Lib.hid (ON.out.below HA.out ON.out.lt)
        have NC := Lib.hid (bel1 HA.out NC.out NL.out)
        have NL := Lib.hid (Nat.lt_of_lt_of_le NL.out HA.out.size)
        clear HA hsz OFL
        generalize hO : wc.heap.size + 1 = O at *
        generalize (((wc.setCell ⟨fb, 0, none⟩ (.bool true)).alloc (.cells #[.slice (some ⟨N, 0, none⟩) 1 cap] 23)).alloc (.cells (#[.slice (some ⟨N, 0, none⟩) 1 cap] ++ Builtin.zeroCells #[.slice none 0 0] (cap2 - 1)) 23)).drew = wB at *
        obtain ⟨c0, c3, ht0, ht1⟩ := keepS.out _ KW.out
        go_wp2_with (first
          | (go_at_call 50; (with_reducible refine (solve_l1 b _ _ _ _ (HM.out.mono KW.out (Nat.le_refl _)) fb nb 2 2 OF.out.bools ON.out.bools).mono ?_); rintro e w5 ⟨g5, rfl, hr5, hb5⟩; have KW := Lib.hid (KW.out.trans (hb5.mono KW.out.size)); have OF := Lib.hid (OF.out.below hb5 OF.out.lt); have OC := Lib.hid (bel1 hb5 OC.out OL.out); have NC := Lib.hid (bel1 hb5 NC.out NL.out); have OL := Lib.hid (Nat.lt_of_lt_of_le OL.out hb5.size); have NL := Lib.hid (Nat.lt_of_lt_of_le NL.out hb5.size); have PY := Lib.hid hr5; clear hr5 c0 c3 ht0 ht1; obtain ⟨c0, c3, ht0, ht1⟩ := keepS.out _ KW.out))
        obtain ⟨f0, f1, ff, fl⟩ := OF.out
        refine wp_loop_rounds 3 ?_
        rw [rounds_succ]
        go_wp2
        have KC : Hid (Below w5.heap.size w5 w5) := Lib.hid (Below.refl _ _)
        have keepR : Hid (∀ w', Below w5.heap.size w5 w' → w'.cell? ⟨fb, 0, none⟩ = some (.bool true)) := Lib.hid (fun w' hb => bel1 hb OF.out.c0 OF.out.lt)
        go_cut [53] (fun v53 wx => v53 = .bool false ∧ Hid (Below w5.heap.size w5 wx))
        case first =>
          go_quiet (fail)
          all_goals
            go_wp2_with fail
            go_meet
            case rel => exact ⟨rfl, Lib.hid ((Drawn.of _ _).below _)⟩
        case rest =>
          obtain ⟨rfl, KC⟩ := hcut
          have KW := Lib.hid (KW.out.trans (KC.out.mono KW.out.size))
          have OF := Lib.hid (OF.out.below KC.out OF.out.lt)
          have OC := Lib.hid (bel1 KC.out OC.out OL.out)
          have NC := Lib.hid (bel1 KC.out NC.out NL.out)
          have OL := Lib.hid (Nat.lt_of_lt_of_le OL.out KC.out.size)
          have NL := Lib.hid (Nat.lt_of_lt_of_le NL.out KC.out.size)
          have PY := Lib.hid (PY.out.mono KC.out (Nat.le_refl _))
          clear KC keepR c0 c3 ht0 ht1 f0 f1 ff fl
          generalize hwD : wc = wD at *
          clear hwD
          obtain ⟨c0, c3, ht0, ht1⟩ := keepS.out _ KW.out
          go_wp2
          rw [rounds_succ]
          go_wp2
          have KC : Hid (Below wD.heap.size wD wD) := Lib.hid (Below.refl _ _)
          have keepR : Hid (∀ w', Below wD.heap.size wD w' → w'.cell? ⟨fb, 1, none⟩ = some (.bool false) ∧ w'.cell? ⟨b, 3, none⟩ = some (.slice ta 2 tc) ∧ w'.cell? ⟨tb, t_o + 1, none⟩ = some (.int .i64 2)) :=
            Lib.hid (fun w' hb => ⟨bel1 hb OF.out.c1 OF.out.lt, bel1 hb (keepS.out _ KW.out).2.1 (Nat.lt_of_lt_of_le hlt KW.out.size), bel1 hb (keepS.out _ KW.out).2.2.2 (Nat.lt_of_lt_of_le htl KW.out.size)⟩)
          go_cut [53] (fun v53 wx => v53 = .bool false ∧ Hid (Below wD.heap.size wD wx))
          case first =>
            have KC0 := KC
            have KC := Lib.hid KC.out.drew
            go_region_held3 (fun w' => w'.cell? ⟨fb, 1, none⟩ = some (.bool false) ∧ w'.cell? ⟨b, 3, none⟩ = some (.slice ta 2 tc) ∧ w'.cell? ⟨tb, t_o + 1, none⟩ = some (.int .i64 2))
              (first | (with_reducible exact keepR.out _ KC0.out) | (with_reducible exact keepR.out _ KC.out))
              (first
              | (go_at_call 51; (with_reducible refine (has_l1 b _ _ _ _ (HM.out.mono (KW.out.trans (KC.out.mono KW.out.size)) (Nat.le_refl _)) g5 2 (twoQ 3 2) 5120 (PY.out.mono KC.out (Nat.le_refl _)) (by omega) (by omega) 3 has_32_1).mono ?_); rintro e wa ⟨ra, rfl, hra, hba⟩; obtain ⟨sa, aa, na, ea, ba, ma, da, rfl, KH⟩ := hra.shape; clear hra; (try have KT := Lib.hid (KT.out.mono hba (Nat.le_refl _))); have KC := Lib.hid (KC.out.trans (hba.mono KC.out.size)))
              | (go_at_call 53; (with_reducible refine (rat_whole 2 (by omega) (by omega) _).mono ?_); rintro e wt ⟨rt, rfl, hrt, hbt⟩; obtain ⟨st, at_, nt, et, bt, mt, dt, rfl, KT⟩ := hrt.shape; clear hrt; (try have KH := Lib.hid (KH.out.mono hbt (Nat.le_refl _))); have KC := Lib.hid (KC.out.trans (hbt.mono KC.out.size)))
              | (go_at_call 52; (with_reducible refine (rat_cmp_val _ _ 3 ((2 : Int) : Rat) 2621952 _ (1) KH.out (KT.out.le (by omega)) (by omega) (by decide +kernel)).mono ?_); rintro e wc ⟨rfl, hbc⟩; have KC := Lib.hid (KC.out.trans (hbc.mono KC.out.size))))
            all_goals
              go_wp2_with fail
              go_meet
              case rel => exact ⟨rfl, KC⟩
          case rest =>
            obtain ⟨rfl, KC⟩ := hcut
            have KW := Lib.hid (KW.out.trans (KC.out.mono KW.out.size))
            have OC := Lib.hid (bel1 KC.out OC.out OL.out)
            have NC := Lib.hid (bel1 KC.out NC.out NL.out)
            have OL := Lib.hid (Nat.lt_of_lt_of_le OL.out KC.out.size)
            have NL := Lib.hid (Nat.lt_of_lt_of_le NL.out KC.out.size)
            have PY := Lib.hid (PY.out.mono KC.out (Nat.le_refl _))
            clear KC keepR c0 c3 ht0 ht1
            obtain ⟨c0, c3, ht0, ht1⟩ := keepS.out _ KW.out
            go_wp2
            rw [rounds_succ]
            go_wp2
            go_ret2
            exact ⟨O, cap2, N, cap, g5, rfl, OC.out, NC.out, PY.out, KW.out, OL.out, NL.out, HCP2.out, HCP.out⟩

end Go.Proofs.Ytgmopcncbpdniaa
