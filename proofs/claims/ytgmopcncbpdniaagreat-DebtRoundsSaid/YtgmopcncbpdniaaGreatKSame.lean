/- made of the laws: a valid market out of any numbers. -/
import Derived.Test.YtgmopcncbpdniaaGreatKRnd
import Derived.Deep.DeepCutAuto
import Derived.Deep.CutBlock
import Derived.Test.YtgmopcncbpdniaaGreatKRep
import Derived.Test.YtgmopcncbpdniaaGreatKClr
set_option linter.unusedVariables false
set_option linter.unusedSimpArgs false
namespace Go.Proofs.YtgmopcncbpdniaaGreat
open Go.RowKit
theorem own_push {w : World} {B n : Nat} {v : Value} {f : Nat → Int} {x : Int} (h : w.ownsRow B 3 1 v (n + 1) (ics f n ++ [.int .i64 x])) (hx : x = f n) : w.ownsRow B 3 1 v (n + 1) (ics f (n + 1)) := by
  rw [hx, ics_succ] at h; exact h
set_option maxHeartbeats 8000000 in
set_option maxRecDepth 100000 in
theorem lmade_any (nv lx ly : Nat) (vx vy : Value) (fx fy : Nat → Nat) (w : World) (hnv : nv < 256) (hx : U16s w vx lx fx) (hy : U16s w vy ly fy) (hlx : lx ≤ 9223372036854775807) (hly : ly ≤ 9223372036854775807) :
    Calls Tryz.prog 10 #[.int .u8 (nv : Nat), vx, vy] w fun e w' => ∃ va vk vb vl, e = .returned (.tuple #[.slice va (nv % 8 + 1) vk, .slice vb (nv % 8 + 1) vl]) ∧
      Ints w' (.slice va (nv % 8 + 1) vk) (nv % 8 + 1) (cashM lx fx) ∧ Mat w' (.slice vb (nv % 8 + 1) vl) (nv % 8 + 1) (fun _ => nv % 8 + 1) (debtM (nv % 8 + 1) ly fy) ∧ Below w.heap.size w w' := by
  obtain ⟨⟨ax, bx, ox, cx, rfl, sx⟩, hxr⟩ := hx
  obtain ⟨⟨ay, by_, oy, cy, rfl, sy⟩, hyr⟩ := hy
  have SX := Lib.hid sx
  have SY := Lib.hid sy
  have HXR := Lib.hid hxr
  have HYR := Lib.hid hyr
  clear sx sy hxr hyr
  obtain ⟨k, hk⟩ : ∃ k, k = nv % 8 + 1 := ⟨_, rfl⟩
  rw [← hk]
  have hk1 : 1 ≤ k := by omega
  have hk8 : k ≤ 8 := by omega
  have hkk : (nv : Int) % 8 + 1 = (k : Int) := by omega
  clear hk
  obtain ⟨i0, hinf, hz0, hz1, hz2⟩ := info_parts infoI
  obtain ⟨i1, hinf1, hz01, hz11, hz21⟩ := info_parts infoM
  have KW0 : Hid (Below w.heap.size w ((w.alloc (.cells #[] 3)).alloc (.cells #[] 24))) := Lib.hid (((Below.refl w.heap.size w).alloc (Nat.le_refl _) _).alloc (by simp) _)
  have G0 : Hid (MadeS w.heap.size ((w.alloc (.cells #[] 3)).alloc (.cells #[] 24)) 0 k (.slice (some ⟨w.heap.size, 0, none⟩) 0 0) (.slice (some ⟨w.heap.size + 1, 0, none⟩) 0 0) (fun _ => none) (fun _ => 0) (cashM lx fx) (debtM k ly fy)) := Lib.hid (by
    have h1 := (World.ownsRow_made (e := 3) (base := w.heap.size) (size := 1) w #[] 0 (Nat.le_refl _) (by unfold maxLen; omega) rfl).alloc (.cells #[] 24)
    have h2 := World.ownsRow_made (e := 24) (base := w.heap.size) (size := 1) (w.alloc (.cells #[] 3)) #[] 0 (by simp) (by unfold maxLen; omega) rfl
    rw [World.size_alloc] at h2
    exact ⟨h1, RowsIn.start h2, fun g e e2 => by
      have a := Option.some.inj e
      have b := Option.some.inj e2
      simp at a b
      omega, fun i g hi => by omega⟩)
  go_enter Tryz.func10, Tryz.ntmps10
  go_wp2_with fail
  clear hkk
  go_loopw [9, 10, 11] (fun v9 v10 v11 wr => ∃ q : Nat, q ≤ k ∧ v11 = .int .i64 (q : Nat) ∧ ∃ va vk vb vl ra rc, v9 = .slice va q vk ∧ v10 = .slice vb q vl ∧ Hid (MadeS w.heap.size wr q k (.slice va q vk) (.slice vb q vl) ra rc (cashM lx fx) (debtM k ly fy)) ∧ Hid (Below w.heap.size w wr)) (fun _ _ v11 _ => k - (intOf v11).toNat)
  case atStart => exact ⟨0, by omega, rfl, _, 0, _, 0, _, _, rfl, rfl, G0, KW0⟩
  case round =>
    clear G0 KW0
    obtain ⟨q, hq, rfl, va, vk, vb, vl, ra, rc, rfl, rfl, G, KW⟩ := hrel
    by_cases h : q < k
    · have e1 : decide ((q : Int) < (k : Int)) = true := by simpa using h
      go_upto_if 31 with (fail)
      go_cut [12] (fun v12 wx => v12 = .int .i64 (cashM lx fx q) ∧ Hid (MadeS w.heap.size wx q k (.slice va q vk) (.slice vb q vl) ra rc (cashM lx fx) (debtM k ly fy)) ∧ Hid (Below w.heap.size w wx))
      case first =>
        by_cases hi : q < lx
        · have e2 : decide ((q : Int) < (lx : Int)) = true := by simpa using hi
          have hix := fun W => ixH SX.out q cx hi W
          have hc := (SX.out.mono KW.out (Nat.le_refl _)).cell q hi
          have hr := HXR.out q hi
          have hv : ((fx q : Nat) : Int) % 1001 = cashM lx fx q := by unfold cashM; rw [if_pos hi]; omega
          go_wp2
          go_meet
          case rel => exact ⟨by rw [hv], G, KW⟩
        · have e2 : decide ((q : Int) < (lx : Int)) = false := by simpa using hi
          have hv : cashM lx fx q = 0 := by unfold cashM; rw [if_neg hi]
          have HV := Lib.hid hv
          clear hv
          go_wp2
          go_meet
          case rel => exact ⟨by rw [HV.out], G, KW⟩
      case rest =>
        clear G KW
        obtain ⟨rfl, G, KW⟩ := hcut
        go_wp2_with fail
        have OW0 := Lib.hid (World.ownsRow_made (e := 3) (base := wc.heap.size) (size := 1) wc #[] 0 (Nat.le_refl _) (by unfold maxLen; omega) rfl)
        have KI0 := Lib.hid ((Below.refl wc.heap.size wc).alloc (Nat.le_refl _) (.cells #[] 3))
        go_loopw [13, 14] (fun v13 v14 wr => ∃ j : Nat, j ≤ k ∧ v14 = .int .i64 (j : Nat) ∧ ∃ vr vs, v13 = .slice vr j vs ∧ Hid (wr.ownsRow wc.heap.size 3 1 (.slice vr j vs) j (ics (debtM k ly fy q) j)) ∧ Hid (Below wc.heap.size wc wr)) (fun _ v14 _ => k - (intOf v14).toNat)
        case atStart => exact ⟨0, by omega, rfl, _, 0, rfl, OW0, KI0⟩
        case round =>
          clear OW0 KI0
          obtain ⟨j, hj, rfl, vr, vs, rfl, OW, KI⟩ := hrel
          by_cases h2 : j < k
          · have f1 : decide ((j : Int) < (k : Int)) = true := by simpa using h2
            obtain ⟨t, ht⟩ : ∃ t, t = q * k + j := ⟨_, rfl⟩
            have hqk : q * k ≤ 64 := Nat.le_trans (Nat.mul_le_mul (Nat.le_of_lt h) (Nat.le_refl k)) (Nat.le_trans (Nat.mul_le_mul hk8 hk8) (by decide))
            have w1 : IntKind.i64.wrap ((q : Int) * (k : Int)) = ((q * k : Nat) : Int) := by rw [← Int.natCast_mul, IntKind.wrap_i64]; omega
            have HT := Lib.hid ht
            obtain ⟨qk, hqk2⟩ : ∃ qk, qk = q * k := ⟨_, rfl⟩
            rw [← hqk2] at w1 hqk
            have w2 : IntKind.i64.wrap ((qk : Int) + (j : Int)) = (t : Int) := by rw [IntKind.wrap_i64]; rw [ht, ← hqk2]; omega
            clear ht hqk2 hqk
            by_cases c1 : t < ly
            · have d1 : decide ((t : Int) < (ly : Int)) = true := by simpa using c1
              have d1n : decide (t < ly) = true := by simpa using c1
              by_cases c2 : q = j
              · have d2 : ((q : Int) != (j : Int)) = false := by simp [c2]
                have HV : Hid (0 = debtM k ly fy q j) := Lib.hid (by unfold debtM; rw [if_neg (fun e => e.2.1 c2)])
                clear c2
                go_wp2_with (at_builtin; refine wpList_append_own _ rfl (.tmp 73) (.tmp 75) 24 rfl wc.heap.size 3 i0 (.int .i64 0) 1 8 Tryz.underlying24 hinf hz0 hz1 hz2 rfl (by decide) (.slice vr j vs) j (ics (debtM k ly fy q) j) rfl (OW.out.alloc _) ⟨wr.heap.size, 0, none⟩ 1 1 [.int .i64 0] rfl rfl (new1 wr (.int .i64 0) 3) (one1 _ rfl) (by unfold maxLen; omega) (by omega) (by have := KI.out.size; simp; omega) ?_; intro v' wJ hown hgrow _; obtain ⟨vr5, vs5, rfl⟩ := own_shape hown; have HOWN := Lib.hid (own_push hown HV.out); have KJ := Lib.hid ((KI.out.alloc KI.out.size _).grown hgrow (by have := KI.out.size; simp; omega) (fun kk e => (OW.out.lt kk e).1)); clear hown hgrow)
                go_roundw
                case rel => exact ⟨j + 1, by omega, by go_num, vr5, vs5, rfl, HOWN, KJ⟩
                case measure => simp [intOf]; omega
              · have d2 : ((q : Int) != (j : Int)) = true := by simp; omega
                have hjx := fun W => ixH SY.out t cy c1 W
                have hjc := (SY.out.mono (KW.out.trans (KI.out.mono KW.out.size)) (Nat.le_refl _)).cell t c1
                have hr := HYR.out t c1
                by_cases c3 : 0 < fy t % 3
                · have d3 : decide (0 < ((fy t : Nat) : Int) % 3) = true := by simp; omega
                  have HV : Hid (((fy t : Nat) : Int) / 3 % 1001 = debtM k ly fy q j) := Lib.hid (by
                    have := HT.out
                    subst this
                    unfold debtM; rw [if_pos ⟨c1, c2, c3⟩]; omega)
                  clear c2 c3
                  go_wp2_with (at_builtin; refine wpList_append_own _ rfl (.tmp 73) (.tmp 75) 24 rfl wc.heap.size 3 i0 (.int .i64 0) 1 8 Tryz.underlying24 hinf hz0 hz1 hz2 rfl (by decide) (.slice vr j vs) j (ics (debtM k ly fy q) j) rfl (OW.out.alloc _) ⟨wr.heap.size, 0, none⟩ 1 1 [.int .i64 (((fy t : Nat) : Int) / 3 % 1001)] rfl rfl (new1 wr (.int .i64 (((fy t : Nat) : Int) / 3 % 1001)) 3) (one1 _ rfl) (by unfold maxLen; omega) (by omega) (by have := KI.out.size; simp; omega) ?_; intro v' wJ hown hgrow _; obtain ⟨vr5, vs5, rfl⟩ := own_shape hown; have HOWN := Lib.hid (own_push hown HV.out); have KJ := Lib.hid ((KI.out.alloc KI.out.size _).grown hgrow (by have := KI.out.size; simp; omega) (fun kk e => (OW.out.lt kk e).1)); clear hown hgrow)
                  go_roundw
                  case rel => exact ⟨j + 1, by omega, by go_num, vr5, vs5, rfl, HOWN, KJ⟩
                  case measure => simp [intOf]; omega
                · have d3 : decide (0 < ((fy t : Nat) : Int) % 3) = false := by simp; omega
                  have HV : Hid (0 = debtM k ly fy q j) := Lib.hid (by
                    have := HT.out
                    subst this
                    unfold debtM; rw [if_neg (fun e => c3 e.2.2)])
                  clear c2 c3
                  go_wp2_with (at_builtin; refine wpList_append_own _ rfl (.tmp 73) (.tmp 75) 24 rfl wc.heap.size 3 i0 (.int .i64 0) 1 8 Tryz.underlying24 hinf hz0 hz1 hz2 rfl (by decide) (.slice vr j vs) j (ics (debtM k ly fy q) j) rfl (OW.out.alloc _) ⟨wr.heap.size, 0, none⟩ 1 1 [.int .i64 0] rfl rfl (new1 wr (.int .i64 0) 3) (one1 _ rfl) (by unfold maxLen; omega) (by omega) (by have := KI.out.size; simp; omega) ?_; intro v' wJ hown hgrow _; obtain ⟨vr5, vs5, rfl⟩ := own_shape hown; have HOWN := Lib.hid (own_push hown HV.out); have KJ := Lib.hid ((KI.out.alloc KI.out.size _).grown hgrow (by have := KI.out.size; simp; omega) (fun kk e => (OW.out.lt kk e).1)); clear hown hgrow)
                  go_roundw
                  case rel => exact ⟨j + 1, by omega, by go_num, vr5, vs5, rfl, HOWN, KJ⟩
                  case measure => simp [intOf]; omega
            · have d1 : decide ((t : Int) < (ly : Int)) = false := by simpa using c1
              have d1n : decide (t < ly) = false := by simpa using c1
              have HV : Hid (0 = debtM k ly fy q j) := Lib.hid (by
                have := HT.out
                subst this
                unfold debtM; rw [if_neg (fun e => c1 e.1)])
              go_wp2_with (at_builtin; refine wpList_append_own _ rfl (.tmp 73) (.tmp 75) 24 rfl wc.heap.size 3 i0 (.int .i64 0) 1 8 Tryz.underlying24 hinf hz0 hz1 hz2 rfl (by decide) (.slice vr j vs) j (ics (debtM k ly fy q) j) rfl (OW.out.alloc _) ⟨wr.heap.size, 0, none⟩ 1 1 [.int .i64 0] rfl rfl (new1 wr (.int .i64 0) 3) (one1 _ rfl) (by unfold maxLen; omega) (by omega) (by have := KI.out.size; simp; omega) ?_; intro v' wJ hown hgrow _; obtain ⟨vr5, vs5, rfl⟩ := own_shape hown; have HOWN := Lib.hid (own_push hown HV.out); have KJ := Lib.hid ((KI.out.alloc KI.out.size _).grown hgrow (by have := KI.out.size; simp; omega) (fun kk e => (OW.out.lt kk e).1)); clear hown hgrow)
              go_roundw
              case rel => exact ⟨j + 1, by omega, by go_num, vr5, vs5, rfl, HOWN, KJ⟩
              case measure => simp [intOf]; omega
          · obtain rfl : j = k := by omega
            have f1 : decide ((j : Int) < (j : Int)) = false := by simp
            go_wp2_with (first
              | (at_builtin; refine wpList_append_own_at _ rfl (.tmp 77) (.tmp 79) 24 rfl w.heap.size 3 i0 (.int .i64 0) 1 8 Tryz.underlying24 hinf hz0 hz1 hz2 rfl (by decide) (.slice va q vk) q (ics (cashM lx fx) q) rfl ((own_kept G.out.cash KI.out).alloc _) ⟨wr.heap.size, 0, none⟩ 1 1 [.int .i64 (cashM lx fx q)] rfl rfl (new1 wr (.int .i64 (cashM lx fx q)) 3) (one1 _ rfl) (by unfold maxLen; omega) (by omega) (by have := KW.out.size; have := KI.out.size; simp; omega) ?_; intro v' wJ hown hgrow _ hbk; rw [ics_succ] at hown; obtain ⟨va5, vk5, rfl⟩ := own_shape hown; have HOWN := Lib.hid hown; have HGROW := Lib.hid hgrow; have HBK := Lib.hid hbk; have RM := Lib.hid (G.out.mid KI.out _ hgrow); have KJ := Lib.hid (((KW.out.trans (KI.out.mono KW.out.size)).alloc (by have := KW.out.size; have := KI.out.size; omega) _).grown hgrow (by have := KW.out.size; have := KI.out.size; simp; omega) (fun kk e => (G.out.cash.lt kk e).1)); clear hown hgrow hbk)
              | (at_builtin; refine wpList_append_own_at _ rfl (.tmp 81) (.tmp 83) 25 rfl w.heap.size 24 i1 (.slice none 0 0) 1 24 Tryz.underlying25 hinf1 hz01 hz11 hz21 rfl (by decide) (.slice vb q vl) q (rowCells ra (fun _ => j) rc q) rfl (RM.out.own.alloc _) ⟨wJ.heap.size, 0, none⟩ 1 1 [.slice vr j vs] rfl rfl (new1 wJ (.slice vr j vs) 24) (one1 _ rfl) (by unfold maxLen; omega) (by omega) (by have := KJ.out.size; simp; omega) ?_; intro v' wK hown hgrow _ hbk; obtain ⟨vb5, vl5, rfl⟩ := own_shape hown; have HOWN2 := Lib.hid hown; have HGROW2 := Lib.hid hgrow; have HBK2 := Lib.hid hbk; clear hown hgrow hbk))
            go_roundw
            case rel =>
              have G2 := G.out.push KW.out.size KI.out OW.out _ _ HGROW.out HBK.out HOWN.out HGROW2.out HBK2.out HOWN2.out
              exact ⟨q + 1, by omega, by go_num, va5, vk5, vb5, vl5, _, _, rfl, rfl, Lib.hid G2, Lib.hid ((KJ.out.alloc KJ.out.size _).grown HGROW2.out (by have := KJ.out.size; simp; omega) (fun kk e => (G.out.rows.own.lt kk e).1))⟩
            case measure => simp [intOf]; omega
    · obtain rfl : q = k := by omega
      have e1 : decide ((q : Int) < (q : Int)) = false := by simp
      have HL : Hid (Ints wr (.slice va q vk) q (cashM lx fx) ∧ Mat wr (.slice vb q vl) q (fun _ => q) (debtM q ly fy) ∧ Below w.heap.size w wr) := Lib.hid ⟨ints_of_own G.out.cash, G.out.rows.mat, KW.out⟩
      clear G KW
      go_wp2
      go_ret2
      exact ⟨_, _, _, _, rfl, HL.out.1, HL.out.2.1, HL.out.2.2⟩
end Go.Proofs.YtgmopcncbpdniaaGreat

/- ref.Before, Same, SameLists, SameRow of equal lists. -/
set_option linter.unusedVariables false
set_option linter.unusedSimpArgs false
namespace Go.Proofs.YtgmopcncbpdniaaGreat
open Go.RowKit
attribute [local go_sem ↓] Go.wp_at_zero Go.wp_at_succ
set_option maxHeartbeats 2000000 in
set_option maxRecDepth 100000 in
theorem before_eq (v1 v2 : Value) (n : Nat) (f : Nat → Int) (w : World) (h1 : Ints w v1 n f) (h2 : Ints w v2 n f) (hn : n ≤ 1048576) :
    Calls Tryz.prog 91 #[v1, v2] w fun e w' => e = .returned (.bool false) ∧ Drawn w w' := by
  obtain ⟨a1, b1, o1, c1, rfl, s1⟩ := h1
  obtain ⟨a2, b2, o2, c2, rfl, s2⟩ := h2
  have S1 := Lib.hid s1
  have S2 := Lib.hid s2
  clear s1 s2
  go_enter Tryz.func91, Tryz.ntmps91
  go_wp2
  go_loopw [5] (fun v5 wr => ∃ k : Nat, k ≤ n ∧ v5 = .int .i64 (k : Nat) ∧ Hid (Drawn w wr)) (fun v5 _ => n - (intOf v5).toNat)
  case atStart => exact ⟨0, by omega, rfl, Lib.hid (Drawn.refl _)⟩
  case round =>
    obtain ⟨k, hk, rfl, hd⟩ := hrel
    by_cases h : k < n
    · have d1 : decide ((k : Int) < (n : Int)) = true := by simpa using h
      have d1n : decide (k < n) = true := by simpa using h
      have ix1 := fun W => ixI S1.out k c1 h W
      have ix2 := fun W => ixI S2.out k c2 h W
      have x1 := (S1.out.drawn hd.out).cell k h
      have x2 := (S2.out.drawn hd.out).cell k h
      simp only [ic] at x1 x2
      have d2 : (f k != f k) = false := by simp
      go_wp2
      go_quiet (fail)
      go_wp2
      go_roundw
      case rel => exact ⟨k + 1, by omega, by go_num, Lib.hid (hd.out.trans (Drawn.of _ _))⟩
      case measure => simp [intOf]; omega
    · obtain rfl : k = n := by omega
      have d1 : decide ((k : Int) < (k : Int)) = false := by simp
      go_wp2
      go_ret
      exact ⟨by first | rfl | (simp; done), hd.out⟩
theorem same_eq (v1 v2 : Value) (n : Nat) (f : Nat → Int) (w : World) (h1 : Ints w v1 n f) (h2 : Ints w v2 n f) (hn : n ≤ 1048576) :
    Calls Tryz.prog 56 #[v1, v2] w fun e w' => e = .returned (.bool true) ∧ Drawn w w' := by
  have H1 := Lib.hid h1
  have H2 := Lib.hid h2
  have HD := Lib.hid (Drawn.refl w)
  clear h1 h2
  go_enter Tryz.func56, Tryz.ntmps56
  go_wp2_with (first
    | (go_at_call 91; (with_reducible refine (before_eq v1 v2 n f _ (H1.out.drawn HD.out) (H2.out.drawn HD.out) hn).mono ?_); rintro e w1 ⟨rfl, hd⟩; have HD := Lib.hid (HD.out.trans hd); clear hd)
    | (go_at_call 91; (with_reducible refine (before_eq v2 v1 n f _ (H2.out.drawn HD.out) (H1.out.drawn HD.out) hn).mono ?_); rintro e w2 ⟨rfl, hd⟩; have HD := Lib.hid (HD.out.trans hd); clear hd))
  go_ret
  exact ⟨rfl, HD.out⟩
set_option maxHeartbeats 2000000 in
set_option maxRecDepth 100000 in
theorem sameLists_eq (v1 v2 : Value) (n : Nat) (m : Nat → Nat) (f : Nat → Nat → Int) (w : World) (h1 : Mat w v1 n m f) (h2 : Mat w v2 n m f) (hn : n ≤ 1048576) (hm : ∀ i, i < n → m i ≤ 1048576) :
    Calls Tryz.prog 25 #[v1, v2] w fun e w' => e = .returned (.bool true) ∧ Drawn w w' := by
  obtain ⟨a1, b1, o1, c1, ra1, rb1, ro1, rc1, rfl, s1⟩ := h1
  obtain ⟨a2, b2, o2, c2, ra2, rb2, ro2, rc2, rfl, s2⟩ := h2
  have S1 := Lib.hid s1
  have S2 := Lib.hid s2
  have HM := Lib.hid hm
  clear s1 s2 hm
  have d0 : ((n : Int) != (n : Int)) = false := by simp
  go_enter Tryz.func25, Tryz.ntmps25
  go_wp2
  go_loopw [5] (fun v5 wr => ∃ k : Nat, k ≤ n ∧ v5 = .int .i64 (k : Nat) ∧ Hid (Drawn w wr)) (fun v5 _ => n - (intOf v5).toNat)
  case atStart => exact ⟨0, by omega, rfl, Lib.hid (Drawn.refl _)⟩
  case round =>
    obtain ⟨k, hk, rfl, hd⟩ := hrel
    by_cases h : k < n
    · have d1 : decide ((k : Int) < (n : Int)) = true := by simpa using h
      have ix1 := fun W => ixM S1.out.top k c1 h W
      have ix2 := fun W => ixM S2.out.top k c2 h W
      have x1 := (S1.out.top.drawn hd.out).cell k h
      have x2 := (S2.out.top.drawn hd.out).cell k h
      go_wp2
      go_region_with (go_at_call 56; refine (same_eq _ _ (m k) (f k) _ ⟨_, _, _, _, rfl, ((S1.out.drawn hd.out).row k h).drew⟩ ⟨_, _, _, _, rfl, ((S2.out.drawn hd.out).row k h).drew⟩ (HM.out k h)).mono ?_; rintro e w1 ⟨rfl, hd1⟩)
      all_goals
        have HDD := Lib.hid (hd.out.drew.trans hd1)
        clear hd1
        go_wp2
        go_roundw
        case rel => exact ⟨k + 1, by omega, by go_num, HDD⟩
        case measure => simp [intOf]; omega
    · obtain rfl : k = n := by omega
      have d1 : decide ((k : Int) < (k : Int)) = false := by simp
      go_wp2
      go_ret
      exact ⟨rfl, hd.out⟩
set_option maxHeartbeats 2000000 in
set_option maxRecDepth 100000 in
theorem sameRow_eq (v1 v2 : Value) (n : Nat) (f : Nat → ByteArray) (w : World) (h1 : Sl w v1 n (fun j => .string (f j))) (h2 : Sl w v2 n (fun j => .string (f j))) (hn : n ≤ 1048576) :
    Calls Tryz.prog 43 #[v1, v2] w fun e w' => e = .returned (.bool true) ∧ Drawn w w' := by
  obtain ⟨a1, b1, o1, c1, rfl, s1⟩ := h1
  obtain ⟨a2, b2, o2, c2, rfl, s2⟩ := h2
  have S1 := Lib.hid s1
  have S2 := Lib.hid s2
  clear s1 s2
  have d0 : ((n : Int) != (n : Int)) = false := by simp
  go_enter Tryz.func43, Tryz.ntmps43
  go_wp2
  go_loopw [5] (fun v5 wr => ∃ k : Nat, k ≤ n ∧ v5 = .int .i64 (k : Nat) ∧ Hid (Drawn w wr)) (fun v5 _ => n - (intOf v5).toNat)
  case atStart => exact ⟨0, by omega, rfl, Lib.hid (Drawn.refl _)⟩
  case round =>
    obtain ⟨k, hk, rfl, hd⟩ := hrel
    by_cases h : k < n
    · have d1 : decide ((k : Int) < (n : Int)) = true := by simpa using h
      have g1 : (0 : Int) ≤ (k : Int) := Int.natCast_nonneg k
      have g2 : (k : Int) < (n : Int) := by omega
      obtain rfl := S1.out.at_ (by omega)
      obtain rfl := S2.out.at_ (by omega)
      have x1 := (S1.out.drawn hd.out).cell k h
      have x2 := (S2.out.drawn hd.out).cell k h
      go_wp2
      go_quiet (fail)
      go_wp2
      go_roundw
      case rel => exact ⟨k + 1, by omega, by go_num, Lib.hid (hd.out.trans (Drawn.of _ _))⟩
      case measure => simp [intOf]; omega
    · obtain rfl : k = n := by omega
      have d1 : decide ((k : Int) < (k : Int)) = false := by simp
      go_wp2
      go_ret
      exact ⟨rfl, hd.out⟩
end Go.Proofs.YtgmopcncbpdniaaGreat
