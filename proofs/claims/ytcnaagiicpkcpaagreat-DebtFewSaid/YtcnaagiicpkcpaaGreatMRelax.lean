/- debt.relax. -/
import Derived.Test.YtcnaagiicpkcpaaGreatMRepR
import Derived.Test.YtcnaagiicpkcpaaGreatMOwnI
import Derived.BigRegion
set_option linter.unusedVariables false
set_option linter.unusedSimpArgs false
namespace Go.Proofs.YtcnaagiicpkcpaaGreat
open Go.RowKit
attribute [local go_sem ↓] Go.wp_at_zero Go.wp_at_succ
def slN : Value → Nat
  | .slice _ n _ => n
  | _ => 0
/-- the first s arcs of a ring -/
def ringL (l : Nat → Arc) (b : Nat → Int) (y s : Nat) : List Arc := (List.range s).map (fun t => l (b (iter (fromF l b) t y)).toNat)
theorem ringL_succ (l : Nat → Arc) (b : Nat → Int) (y s : Nat) : ringL l b y s ++ [l (b (iter (fromF l b) s y)).toNat] = ringL l b y (s + 1) := by simp [ringL, List.range_succ]
theorem ringL_get (l : Nat → Arc) (b : Nat → Int) (y s k : Nat) (h : k < s) : (ringL l b y s)[k]? = some (l (b (iter (fromF l b) k y)).toNat) := by simp [ringL, h]
/-- what relax has after q passes: costs in block C, arcs in block D -/
structure RlxQ (w0 w : World) (n m : Nat) (l : Nat → Arc) (C D q r : Nat) (cost b : Nat → Int) (τ : Nat → Nat) : Prop where
  rc : w.rowIs C 3 n (ic cost)
  rd : w.rowIs D 3 n (ic b)
  inv : BInv n m l q r cost b τ
  low : ∀ v, v < n → -((q * m + r : Nat) : Int) ≤ cost v ∧ cost v ≤ 0
  below : Below w0.heap.size w0 w
theorem RlxQ.alloc {w0 w : World} {n m C D q r : Nat} {l : Nat → Arc} {cost b : Nat → Int} {τ : Nat → Nat} (h : RlxQ w0 w n m l C D q r cost b τ) (o : Obj) : RlxQ w0 (w.alloc o) n m l C D q r cost b τ :=
  ⟨h.rc.alloc o, h.rd.alloc o, h.inv, h.low, h.below.alloc h.below.size o⟩
theorem RlxQ.drewN {w0 w : World} {n m C D q r : Nat} {l : Nat → Arc} {cost b : Nat → Int} {τ : Nat → Nat} (h : RlxQ w0 w n m l C D q r cost b τ) (k : Nat) : RlxQ w0 (w.drewN k) n m l C D q r cost b τ :=
  ⟨h.rc, h.rd, h.inv, h.low, below_drawN h.below k⟩
theorem RlxQ.skip {w0 w : World} {n m C D q r : Nat} {l : Nat → Arc} {cost b : Nat → Int} {τ : Nat → Nat} (h : RlxQ w0 w n m l C D q r cost b τ) (hr : r < m) (hok : cost (l r).dst ≤ cost (l r).src + (l r).c) : RlxQ w0 w n m l C D q (r + 1) cost b τ :=
  ⟨h.rc, h.rd, h.inv.skip hr hok, fun v hv => by have := h.low v hv; omega, h.below⟩
theorem RlxQ.turn {w0 w : World} {n m C D q r : Nat} {l : Nat → Arc} {cost b : Nat → Int} {τ : Nat → Nat} (h : RlxQ w0 w n m l C D q r cost b τ) (hin : ArcsIn n m l) (hc : (l r).c = 1 ∨ (l r).c = -1) (hr : r < m) (hne : C ≠ D) (hC : w0.heap.size ≤ C) (hD : w0.heap.size ≤ D) (hno : cost (l r).src + (l r).c < cost (l r).dst) :
    RlxQ w0 ((w.setCell ⟨C, (l r).dst, none⟩ (.int .i64 (cost (l r).src + (l r).c))).setCell ⟨D, (l r).dst, none⟩ (.int .i64 (r : Nat))) n m l C D q (r + 1) (setN cost (l r).dst (cost (l r).src + (l r).c)) (setN b (l r).dst (r : Int)) (setN τ (l r).dst (q * m + r + 1)) :=
  ⟨((h.rc.set _ _).setOther hne _).congr fun i hi => by
      simp only [ic, setN]; split <;> rfl,
    ((h.rd.setOther (by exact hne.symm) _).set _ _).congr fun i hi => by
      simp only [ic, setN]; split <;> rfl,
    h.inv.turn hin hr hno, fun v hv => by
      have h1 := h.low v hv
      obtain ⟨s1, s2, _⟩ := hin r hr
      have h2 := h.low _ s1
      have h3 := h.low _ s2
      by_cases e : v = (l r).dst
      · rw [e, setN_self]; rcases hc with e2 | e2 <;> rw [e2] at hno ⊢ <;> omega
      · rw [setN_ne _ _ e]; omega,
    (h.below.setCell (by exact hC) _).setCell (by exact hD) _⟩
/-- what relax returns -/
def RelaxPost (w0 : World) (n m R : Nat) (l : Nat → Arc) (e : Ending) (w' : World) : Prop :=
  ((∃ (C : Nat) (cost : Nat → Int), e = .returned (.tuple #[.slice (some ⟨C, 0, none⟩) n n, .slice none 0 0]) ∧ w'.rowIs C 3 n (ic cost) ∧ w0.heap.size ≤ C ∧ (∀ k, k < m → cost (l k).dst ≤ cost (l k).src + (l k).c) ∧ ∀ v, v < n → -((n * m : Nat) : Int) ≤ cost v ∧ cost v ≤ 0) ∨
   ∃ (C : Nat) (b : Nat → Int) (y p G cap : Nat), e = .returned (.tuple #[.slice (some ⟨C, 0, none⟩) n n, .slice (some ⟨G, 0, none⟩) p cap]) ∧ IsRing n m l b y p ∧ p ≤ n ∧ p ≤ cap ∧ ringC l b y p < 0 ∧ ArcRow w' G p R (fun s => l (b (iter (fromF l b) s y)).toNat) ∧ w0.heap.size ≤ G) ∧ Below w0.heap.size w0 w'
/-- the least one above 0 -/
theorem least_pos (P : Nat → Prop) : ∀ N p, p ≤ N → 0 < p → P p → ∃ p', 0 < p' ∧ p' ≤ p ∧ P p' ∧ ∀ s, 0 < s → s < p' → ¬ P s
  | 0, p, h, h0, _ => by omega
  | N + 1, p, h, h0, hp => by
    by_cases hx : ∃ s, 0 < s ∧ s < p ∧ P s
    · obtain ⟨s, h1, h2, h3⟩ := hx
      obtain ⟨q, q1, q2, q3, q4⟩ := least_pos P N s (by omega) h1 h3
      exact ⟨q, q1, by omega, q3, q4⟩
    · exact ⟨p, h0, Nat.le_refl _, hp, fun s s1 s2 s3 => hx ⟨s, s1, s2, s3⟩⟩
set_option maxHeartbeats 4000000 in
set_option maxRecDepth 100000 in
theorem relax_any (n m g R vk : Nat) (va : Option Addr) (l : Nat → Arc) (w : World) (h0 : 0 < n) (hn : n ≤ 8) (hm : m ≤ 128) (hva : 0 < m → va = some ⟨g, 0, none⟩) (hvk : m ≤ vk) (hl : 0 < m → ArcRow w g m R l) (hin : ArcsIn n m l) (hc : ∀ k, k < m → (l k).c = 1 ∨ (l k).c = -1) :
    Calls Tryz.prog 59 #[.int .i64 (n : Nat), .slice va m vk] w fun e w' => RelaxPost w n m R l e w' := by
  have hmk := run_make_row' (P := Tryz.prog) 22 3 (.int .i64 0) 8 Tryz.underlying22 infoI rfl .i64 .i64 n (by omega) (by omega)
  have HVA := Lib.hid hva
  have HL := Lib.hid hl
  have HIN := Lib.hid hin
  have HC := Lib.hid hc
  clear hva hl hin hc
  obtain ⟨i0, hinf, hz0, hz1, hz2⟩ := info_parts infoA
  go_enter Tryz.func59, Tryz.ntmps59
  go_wp2
  go_cut [6, 7] (fun v6 v7 wx => ∃ C D : Nat, v6 = .slice (some ⟨C, 0, none⟩) n n ∧ v7 = .slice (some ⟨D, 0, none⟩) n n ∧ Hid (wx.rowIs C 3 n (ic (fun _ => 0))) ∧ Hid (wx.rowIs D 3 n (ic (fun _ => -1))) ∧ C ≠ D ∧ w.heap.size ≤ C ∧ w.heap.size ≤ D ∧ Hid (Below w.heap.size w wx))
  case first =>
    go_region_with (go_at_call 80; go_loud (refine (repeat_neg _ _ n _ h0 hn (by simp [go_sem])).mono ?_; rintro e w1 ⟨rfl, hr1, hs1, hb1⟩))
    all_goals
      go_wp2_with fail
      go_meet
      case rel =>
        have hr2 := hr1.congr (g := ic (fun _ => -1)) (fun i hi => if_pos hi)
        have hz := hb1.size
        have hs2 := hs1
        simp only [World.size_alloc, World.size_drew] at hr2 hz hs2
        first
        | (refine ⟨w.heap.size, w.heap.size + 1 + 1, rfl, rfl, Lib.hid ?_, Lib.hid hr2, by omega, by omega, by omega, Lib.hid ?_⟩
           · exact rowIs_below ((World.rowIs_made w (.int .i64 0) n 3).alloc _).drew hb1 (by simp; omega)
           · exact (((Below.refl w.heap.size w).alloc (Nat.le_refl _) _).alloc (by simp) _).drew.trans (hb1.mono (by simp; omega)))
        | (refine ⟨w.heap.size + 1, w.heap.size + 1 + 1, rfl, rfl, Lib.hid ?_, Lib.hid hr2, by omega, by omega, by omega, Lib.hid ?_⟩
           · have h1 := World.rowIs_made (w.alloc (.cells #[.int .i64 (-1)] 3)) (.int .i64 0) n 3
             simp only [World.size_alloc] at h1
             exact rowIs_below h1.drew hb1 (by simp)
           · exact (((Below.refl w.heap.size w).alloc (Nat.le_refl _) _).alloc (by simp) _).drew.trans (hb1.mono (by simp; omega)))
        | (refine ⟨w.heap.size + 1 + 1, w.heap.size + 1, rfl, rfl, Lib.hid ?_, Lib.hid (hr2.alloc _), by omega, by omega, by omega, Lib.hid ?_⟩
           · have h1 := World.rowIs_made w1 (.int .i64 0) n 3
             rw [hs2] at h1
             exact h1
           · exact (((Below.refl w.heap.size w).alloc (Nat.le_refl _) _).drew.trans (hb1.mono (by simp))).alloc (by omega) _)
  case rest =>
    obtain ⟨C, D, rfl, rfl, RC, RD, hne, hC, hD, KW⟩ := hcut
    have hw1 : IntKind.i64.wrap ((n : Int) + 1) = ((n + 1 : Nat) : Int) := by rw [IntKind.wrap_i64]; omega
    have RX : Hid (RlxQ w wc n m l C D 0 0 (fun _ => 0) (fun _ => -1) (fun _ => 0)) := Lib.hid ⟨RC.out, RD.out, BInv.start _ _ _ _ _, fun v hv => ⟨by omega, by omega⟩, KW.out⟩
    clear RC RD KW
    go_wp2
    go_loopw [8, 21] (fun v8 v21 wr => ∃ q : Nat, q ≤ n + 1 ∧ v21 = .int .i64 (q : Nat) ∧ ∃ (lastv : Int) (cost b : Nat → Int) (τ : Nat → Nat), v8 = .int .i64 lastv ∧ Hid (RlxQ w wr n m l C D q 0 cost b τ) ∧
        Hid (q = n + 1 → ∃ z : Nat, lastv = (z : Nat) ∧ z < n ∧ BInv n m l n m cost b τ ∧ n * m < τ z)) (fun _ v21 _ => n + 1 - (intOf v21).toNat)
    case atStart => exact ⟨0, by omega, rfl, -1, fun _ => 0, fun _ => -1, fun _ => 0, rfl, RX, Lib.hid (fun e => by omega)⟩
    case round =>
      clear RX
      obtain ⟨q, hq, rfl, lastv, cost, b, τ, rfl, RX, FIN⟩ := hrel
      by_cases h : q < n + 1
      · have g0 : decide ((q : Int) < (n : Int) + 1) = true := by simp; omega
        go_wp2
        go_loopw [8, 25] (fun v8 v25 wr => ∃ r : Nat, r ≤ m ∧ v25 = .int .i64 (r : Nat) ∧ ∃ (lastv : Int) (cost b : Nat → Int) (τ : Nat → Nat), v8 = .int .i64 lastv ∧ Hid (RlxQ w wr n m l C D q r cost b τ) ∧
            Hid ((lastv = -1 ∧ (∀ v, v < n → τ v ≤ q * m) ∧ ∀ v, v < n → -((q * m : Nat) : Int) ≤ cost v) ∨ ∃ z : Nat, lastv = (z : Nat) ∧ z < n ∧ q * m < τ z)) (fun _ v25 _ => m - (intOf v25).toNat)
        case atStart => exact ⟨0, by omega, rfl, -1, cost, b, τ, rfl, RX, Lib.hid (.inl ⟨rfl, fun v hv => by have := RX.out.inv.le v hv; omega, fun v hv => by have := (RX.out.low v hv).1; simpa using this⟩)⟩
        case round =>
          clear RX FIN
          obtain ⟨r, hr, rfl, lastv, cost, b, τ, rfl, RX, LS⟩ := hrel
          by_cases h2 : r < m
          · obtain rfl := HVA.out (by omega)
            have ha := HL.out (by omega)
            have KW := Lib.hid RX.out.below
            have HG := Lib.hid ha.lt
            have ha := ha.below KW.out ha.lt
            have a0 := ha.c0 r h2
            have a1 := ha.c1 r h2
            have a2 := ha.c2 r h2
            have a3 := ha.c3 r h2
            have a4 := ha.c4 r h2
            clear ha
            have g1 : (0 : Int) ≤ (r : Int) := Int.natCast_nonneg r
            have g2 : (r : Int) < (m : Int) := by omega
            go_wp2
            have hCl := RX.out.rc.lt
            have hDl := RX.out.rd.lt
            have RX := Lib.hid (RX.out.alloc (.cells (arcC R (l r)).toArray 108))
            have n5 := new5 wr R (l r) 108
            have b0 := n5 0 _ rfl
            have b1 := n5 1 _ rfl
            have b2 := n5 2 _ rfl
            clear n5 a0 a1 a2 a3 a4
            obtain ⟨s1, s2, s3⟩ := HIN.out r h2
            have t1 := RX.out.rc.cell s1
            have t2 := RX.out.rc.cell s2
            have t3 := RX.out.rd.cell s2
            have t4 := RX.out.rc.frozen (l r).dst
            have t5 := RX.out.rd.frozen (l r).dst
            have hb1 := RX.out.low _ s1
            have hb2 := RX.out.low _ s2
            have hcc := HC.out r h2
            have hqm : q * m ≤ 9 * 128 := Nat.mul_le_mul (by omega) (by omega)
            have hwr : IntKind.i64.wrap (cost (l r).src + (l r).c) = cost (l r).src + (l r).c := by rw [IntKind.wrap_i64]; omega
            have HB := Lib.hid hb1
            have HB2 := Lib.hid hb2
            clear hb1 hb2 hqm
            have k1 : (0 : Int) ≤ ((l r).src : Int) := Int.natCast_nonneg _
            have k2 : ((l r).src : Int) < (n : Int) := by omega
            have k3 : (0 : Int) ≤ ((l r).dst : Int) := Int.natCast_nonneg _
            have k4 : ((l r).dst : Int) < (n : Int) := by omega
            have hadd : ∀ j, (⟨wr.heap.size, 0, none⟩ : Addr).add j = ⟨wr.heap.size, j, none⟩ := fun j => by unfold Addr.add; split <;> simp_all
            simp only [hadd, ic] at b0 b1 b2 t1 t2 t3
            simp only [arcC] at b0 b1 b2 t1 t2 t3 t4 t5 RX
            clear hadd
            generalize wr.alloc _ = wA at b0 b1 b2 t1 t2 t3 t4 t5 RX ⊢
            generalize wr.heap.size = H at b0 b1 b2 hCl hDl ⊢
            have n1 : ¬ C = D := hne
            have n2 : ¬ D = C := Ne.symm hne
            have n3 : ¬ C = H := by omega
            have n4 : ¬ H = C := by omega
            have n5 : ¬ D = H := by omega
            have n6 : ¬ H = D := by omega
            by_cases hno : cost (l r).src + (l r).c < cost (l r).dst
            · have d1 : decide (cost (l r).src + (l r).c < cost (l r).dst) = true := by simpa using hno
              have HN := Lib.hid hno
              clear hno
              go_quiet (fail)
              go_wp2
              go_region
              go_wp2
              go_roundw
              case rel =>
                exact ⟨r + 1, by omega, by go_num, ((l r).dst : Nat), _, _, _, rfl, Lib.hid ((RX.out.drewN (nq + 1)).turn HIN.out hcc h2 hne hC hD HN.out), Lib.hid (.inr ⟨(l r).dst, rfl, s2, by rw [setN_self]; omega⟩)⟩
              case measure => simp [intOf]; omega
            · have d1 : decide (cost (l r).src + (l r).c < cost (l r).dst) = false := by simpa using hno
              have HN := Lib.hid hno
              clear hno
              go_quiet (fail)
              go_wp2
              go_roundw
              case rel => exact ⟨r + 1, by omega, by go_num, lastv, cost, b, τ, rfl, Lib.hid ((RX.out.drewN nq).skip h2 (by have := HN.out; omega)), LS⟩
              case measure => simp [intOf]; omega
          · obtain rfl : r = m := by omega
            rcases LS.out with ⟨rfl, hτ, hlow⟩ | ⟨z, rfl, hz, hτ⟩
            · -- no cost was changed: done
              have e1 := RX.out
              have hqm : q * r ≤ n * r := Nat.mul_le_mul (by omega) (Nat.le_refl _)
              clear LS
              go_wp2
              go_ret2
              refine ⟨.inl ⟨C, cost, rfl, e1.rc, hC, fun k hk => ?_, fun v hv => ⟨by have := hlow v hv; omega, (e1.low v hv).2⟩⟩, e1.below⟩
              rcases e1.inv.low k hk hk with h3 | h3
              · exact h3
              · have := hτ _ (HIN.out k hk).1
                omega
            · have z0 : ¬ (z : Int) < 0 := by omega
              go_wp2
              go_roundw
              case rel =>
                refine ⟨q + 1, by omega, by go_num, z, cost, b, τ, rfl, Lib.hid ⟨RX.out.rc, RX.out.rd, RX.out.inv.pass, fun v hv => ?_, RX.out.below⟩, Lib.hid (fun e => ?_)⟩
                · have := RX.out.low v hv
                  rw [Nat.succ_mul]; simpa using this
                · have e2 : q = n := by omega
                  have h1 := RX.out.inv
                  rw [e2] at h1 hτ
                  exact ⟨z, rfl, hz, h1, hτ⟩
              case measure => simp [intOf]; omega
      · obtain ⟨z, rfl, hz, hinv, hτ⟩ := FIN.out (by omega)
        have hqn : decide ((q : Int) < (n : Int) + 1) = false := by simp; omega
        have HINV := Lib.hid hinv
        have HT := Lib.hid hτ
        clear hinv hτ FIN
        obtain ⟨hz1, p0, hp0, hpn, hpe, hpt⟩ := on_ring HINV.out HIN.out z hz HT.out
        obtain ⟨p, hp1, hp2, hp3, hp4⟩ := least_pos (fun p => iter (fromF l b) p (iter (fromF l b) n z) = iter (fromF l b) n z) p0 p0 (Nat.le_refl _) hp0 hpe
        have HZ1 := Lib.hid hz1
        have HPT := Lib.hid hpt
        have HP3 := Lib.hid hp3
        have HP4 := Lib.hid hp4
        clear hz1 hpt hp3 hp4 hpe
        have STEP : ∀ v, v < n → 0 < τ v → ∃ k : Nat, k < m ∧ b v = (k : Int) ∧ (l k).dst = v ∧ fromF l b v = (l k).src := fun v hv hp => by
          obtain ⟨k, h1, h2, h3, _⟩ := HINV.out.pos v hv hp
          exact ⟨k, h1, h2, h3, by unfold fromF; rw [h2]; rfl⟩
        have STEP := Lib.hid STEP
        go_wp2
        go_loopw [8, 69] (fun v8 v69 w2 => ∃ i : Nat, i ≤ n ∧ v69 = .int .i64 (i : Nat) ∧ v8 = .int .i64 ((iter (fromF l b) i z : Nat) : Int) ∧ Hid (RlxQ w w2 n m l C D q 0 cost b τ)) (fun _ v69 _ => n - (intOf v69).toNat)
        case atStart => exact ⟨0, by omega, rfl, rfl, RX⟩
        case round =>
          clear RX
          obtain ⟨i, hi, rfl, rfl, RX⟩ := hrel
          by_cases h3 : i < n
          · obtain ⟨hv, hτ⟩ := HZ1.out i hi
            obtain ⟨k, hk, hbk, hd, hfr⟩ := STEP.out _ hv hτ
            obtain rfl := HVA.out (by omega)
            have hit : iter (fromF l b) (i + 1) z = (l k).src := hfr
            have hdc := RX.out.rd.cell hv
            have ha := (HL.out (by omega))
            have ha := (ha.below RX.out.below ha.lt).c0 k hk
            simp only [ic, hbk] at hdc
            have HIT := Lib.hid hit
            clear hfr hit hbk hd hτ
            generalize iter (fromF l b) i z = v at *
            have g1 : (0 : Int) ≤ (v : Int) := Int.natCast_nonneg v
            have g2 : (v : Int) < (n : Int) := by omega
            have g3 : (0 : Int) ≤ (k : Int) := Int.natCast_nonneg k
            have g4 : (k : Int) < (m : Int) := by omega
            go_wp2
            go_roundw
            case rel => exact ⟨i + 1, by omega, by go_num, by rw [HIT.out], RX⟩
            case measure => simp [intOf]; omega
          · obtain rfl : i = n := by omega
            generalize iter (fromF l b) i z = y at *
            have hst : ∀ t, ∃ k : Nat, k < m ∧ b (iter (fromF l b) t y) = (k : Int) ∧ (l k).dst = iter (fromF l b) t y ∧ (l k).src = iter (fromF l b) (t + 1) y := fun t => by
              obtain ⟨h1, h2⟩ := HPT.out t
              obtain ⟨k, k1, k2, k3, k4⟩ := STEP.out _ h1 h2
              exact ⟨k, k1, k2, k3, k4.symm⟩
            have hring : IsRing i m l b y p := ⟨hp1, HP3.out, HP4.out, fun s => by
              obtain ⟨k, k1, k2, k3, k4⟩ := hst s
              rw [k2]; exact ⟨k1, k3, k4⟩⟩
            have hneg := ring_neg HINV.out HIN.out y p hp1 HPT.out HP3.out
            have HST := Lib.hid hst
            have HRING := Lib.hid hring
            have HNEG := Lib.hid hneg
            have HYN : Hid (∀ t, iter (fromF l b) t y < i) := Lib.hid (fun t => (HPT.out t).1)
            obtain ⟨k0, hk0, _⟩ := hst 0
            obtain rfl := HVA.out (by omega)
            have ha := HL.out (by omega)
            have HG := Lib.hid ha.lt
            have ha := ha.below RX.out.below ha.lt
            have HA := Lib.hid ha
            clear hst hring hneg ha STEP HPT HP4 HZ1 HINV HT
            generalize wr = wo at *
            clear wr
            have KW0 := Lib.hid (Below.refl wo.heap.size wo)
            go_wp2
            go_loopw [11, 12] (fun v11 v12 w3 => ∃ s : Nat, s < p ∧ v12 = .int .i64 ((iter (fromF l b) s y : Nat) : Int) ∧ ∃ va vk, v11 = .slice va s vk ∧ Hid (w3.ownsRow wo.heap.size 108 5 (.slice va s vk) s (arcCs R (ringL l b y s))) ∧ Hid (Below wo.heap.size wo w3)) (fun v11 _ _ => p - slN v11)
            case atStart => exact ⟨0, hp1, rfl, none, 0, rfl, Lib.hid (World.ownsRow_nil _ _ _ _), KW0⟩
            case round =>
              clear KW0
              obtain ⟨s, hs, rfl, va, vc, rfl, OW, KW⟩ := hrel
              obtain ⟨k, hk, hbk, hd, hsrc⟩ := HST.out s
              have hyn := HYN.out s
              have hdc := (rowIs_below RX.out.rd KW.out RX.out.rd.lt).cell hyn
              have ha := HA.out.below KW.out HA.out.lt
              have a0 := ha.c0 k hk
              have a1 := ha.c1 k hk
              have a2 := ha.c2 k hk
              have a3 := ha.c3 k hk
              have a4 := ha.c4 k hk
              simp only [ic, hbk] at hdc
              clear ha
              have hls : (ringL l b y s) ++ [l k] = ringL l b y (s + 1) := by rw [← ringL_succ, hbk]; rfl
              have HLS := Lib.hid hls
              have HSRC := Lib.hid hsrc
              have HSZ := Lib.hid KW.out.size
              have HBK := Lib.hid OW.out.lt
              have n5 := new5 wr R (l k) 108
              have hnews := new5 (wr.alloc (.cells (arcC R (l k)).toArray 108)) R (l k) 108
              rw [World.size_alloc] at hnews
              have HNW := Lib.hid hnews
              have b0 := n5 0 _ rfl
              have b1 := n5 1 _ rfl
              have b2 := n5 2 _ rfl
              have b3 := n5 3 _ rfl
              have b4 := n5 4 _ rfl
              have hadd : ∀ j, (⟨wr.heap.size, 0, none⟩ : Addr).add j = ⟨wr.heap.size, j, none⟩ := fun j => by unfold Addr.add; split <;> simp_all
              simp only [hadd] at b0
              have hb0 := (World.cell?_alloc_some (wr.alloc (.cells (arcC R (l k)).toArray 108)) _ (.cells (arcC R (l k)).toArray 108) (by rw [b0]; rfl)).trans b0
              have HB0 := Lib.hid hb0
              simp only [hadd, arcC] at b0 b1 b2 b3 b4
              clear hadd n5 hls hsrc hbk hd hnews hb0
              have g1 : (0 : Int) ≤ ((iter (fromF l b) s y : Nat) : Int) := Int.natCast_nonneg _
              have g2 : ((iter (fromF l b) s y : Nat) : Int) < (i : Int) := by omega
              have g3 : (0 : Int) ≤ (k : Int) := Int.natCast_nonneg k
              have g4 : (k : Int) < (m : Int) := by omega
              by_cases hend : s + 1 = p
              · have HE : Hid ((l k).src = y) := Lib.hid (by rw [HSRC.out, hend]; exact HP3.out)
                go_wp2_with (at_builtin; refine wpList_append_own _ rfl (.tmp 88) (.tmp 90) 102 rfl wo.heap.size 108 i0 _ 5 40 Tryz.underlying102 hinf hz0 hz1 hz2 rfl (by decide) (.slice va s vc) s (arcCs R (ringL l b y s)) rfl ((OW.out.alloc _).alloc _) ⟨wr.heap.size + 1, 0, none⟩ 1 1 (arcC R (l k)) rfl rfl HNW.out (one5 R (l k)) (by unfold maxLen; omega) (by omega) (by simp; have := HSZ.out; omega) ?_; intro v' w5 hown hgrow _; have KW := Lib.hid (((KW.out.alloc KW.out.size _).alloc (by have := HSZ.out; simp; omega) _).grown hgrow (by have := HSZ.out; simp; omega) (fun kk e => (HBK.out kk e).1)); have c0 := hgrow.cell HB0.out (fun e => by have := (HBK.out _ e.symm).2; dsimp only at this; omega); rw [arcCs_app, HLS.out] at hown; obtain ⟨va', vk', rfl⟩ := own_shape hown; have OW := Lib.hid hown; clear hown hgrow; have hE := HE.out)
                go_ret2
                obtain ⟨gg, cap, hv, hgg, hgl⟩ := OW.out.form (by omega)
                cases hv
                subst hend
                exact ⟨.inr ⟨C, b, y, s + 1, gg, vk', rfl, HRING.out, by omega, by have := own_cap OW.out; omega, HNEG.out, (ArcRow.of_own OW.out (fun k hk => ringL_get _ _ _ _ _ hk) hgl), by have := RX.out.below.size; omega⟩, RX.out.below.trans (KW.out.mono RX.out.below.size)⟩
              · have hE : ¬ (l k).src = y := by rw [HSRC.out]; exact HRING.out.first (s + 1) (by omega) (by omega)
                go_wp2_with (at_builtin; refine wpList_append_own _ rfl (.tmp 88) (.tmp 90) 102 rfl wo.heap.size 108 i0 _ 5 40 Tryz.underlying102 hinf hz0 hz1 hz2 rfl (by decide) (.slice va s vc) s (arcCs R (ringL l b y s)) rfl ((OW.out.alloc _).alloc _) ⟨wr.heap.size + 1, 0, none⟩ 1 1 (arcC R (l k)) rfl rfl HNW.out (one5 R (l k)) (by unfold maxLen; omega) (by omega) (by simp; have := HSZ.out; omega) ?_; intro v' w5 hown hgrow _; have KW := Lib.hid (((KW.out.alloc KW.out.size _).alloc (by have := HSZ.out; simp; omega) _).grown hgrow (by have := HSZ.out; simp; omega) (fun kk e => (HBK.out kk e).1)); have c0 := hgrow.cell HB0.out (fun e => by have := (HBK.out _ e.symm).2; dsimp only at this; omega); rw [arcCs_app, HLS.out] at hown; obtain ⟨va', vk', rfl⟩ := own_shape hown; have OW := Lib.hid hown; clear hown hgrow)
                go_roundw
                case rel => exact ⟨s + 1, by omega, by rw [HSRC.out], va', vk', rfl, OW, KW⟩
                case measure => simp [slN]; omega
end Go.Proofs.YtcnaagiicpkcpaaGreat
