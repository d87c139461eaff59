/- The methods of Int of package num: Of, Gcd. -/
import Derived.Test.YtgmopcncbpdniaaQInt4
import Derived.Deep.LoopGhost
set_option linter.unusedVariables false
set_option linter.unusedSimpArgs false
namespace Go.Proofs.Ytgmopcncbpdniaa
open Go.RowKit
attribute [local go_sem ↓] Go.wp_at_zero Go.wp_at_succ

theorem isSl_two (N : Nat) (hN : N < 4611686018427387904) {w : World} {b : Nat} (h0 : w.cell? ⟨b, 0, none⟩ = some (.int .u32 ((N % 4294967296 : Nat) : Int))) (h1 : w.cell? ⟨b, 1, none⟩ = some (.int .u32 ((N / 4294967296 : Nat) : Int))) (hb : b < w.heap.size) :
    IsSl w (some ⟨b, 0, none⟩) b 0 2 2 (fun i => .int .u32 (dig N i : Nat)) :=
  ⟨Nat.le_refl _, fun _ => rfl, fun _ => hb, fun i hi => by
    match i, hi with
    | 0, _ => rw [h0]; simp [dig]
    | 1, _ =>
      rw [h1]
      have : N / 4294967296 % 4294967296 = N / 4294967296 := Nat.mod_eq_of_lt (by omega)
      simp [dig, this], fun e => by cases e⟩

theorem of_pos (N : Nat) (hN : N < 4611686018427387904) (w : World) :
    Calls Try.prog 67 #[.int .i64 (N : Nat)] w fun e w' => ∃ r, e = .returned r ∧ IntIs w' r N 2 ∧ Below w.heap.size w w' := by
  have hn2 : nl N ≤ 2 := by rw [nl_le]; omega
  have hv : valF (dig N) 2 = N := valF_dig_le N 2 hn2
  have HN := Lib.hid hN
  have hN2 : (N : Int) ≤ 4611686018427387903 := by omega
  have hdn : decide ((N : Int) < 0) = false := by simp
  clear hN
  have HV := Lib.hid hv
  have HN2 := Lib.hid hn2
  clear hv hn2
  go_enter Try.func67, Try.ntmps67
  go_wp2_with fail
  refine (trim_any _ (w.heap.size + 1) 0 2 2 (dig N) _ (by omega) (isSl_two N HN.out (by simp [go_sem]) (by simp [go_sem]) (by simp))).mono ?_
  rintro e w' ⟨rfl, hww⟩
  have hww2 := hww.symm
  clear hww
  subst hww2
  go_wp2_with fail
  refine (made_any _ _ N _ ?_).mono ?_
  · have := trim_mag (fun i _ => dig_lt N i) (isSl_two N HN.out (w := (w.alloc (Obj.cells #[Value.bool false, Value.slice none 0 0] 86)).alloc (Obj.cells #[Value.int IntKind.u32 ((N : Int) % 4294967296), Value.int IntKind.u32 ((N : Int) / 4294967296)] 111)) (b := w.heap.size + 1) (by simp [go_sem]) (by simp [go_sem]) (by simp))
    rw [HV.out] at this
    exact this
  · rintro e w1 ⟨rfl, hm, hb⟩
    have q1 := fun o => hb.cell (p := ⟨w.heap.size, o, none⟩) (by simp; omega)
    have q2 := fun o => hb.frozen (p := ⟨w.heap.size, o, none⟩) (by simp; omega)
    have hs1 : w.heap.size + 2 ≤ w1.heap.size := by (have := hb.size; simpa using this)
    go_wp2
    refine bodyPost_ret (v := .agg #[.bool (false && decide (0 < N)), .slice (some ⟨w.heap.size + 1, 0, none⟩) (trimN (dig N) 2) 2]) (by simp [results, Try.results67, go_sem, q1, q2]) rfl ?_
    have hbel := (boxes2 w (Obj.cells #[Value.bool false, Value.slice none 0 0] 86) (Obj.cells #[Value.int IntKind.u32 ((N : Int) % 4294967296), Value.int IntKind.u32 ((N : Int) / 4294967296)] 111)).trans (hb.mono (by simp; omega))
    refine ⟨_, rfl, ?_, (hbel.setCell (by simp) _).setCell (by simp) _⟩
    exact IntIs.mk (by simp [sgn]) (hm.store2 _ _ (v0 := .bool false) (v1 := .slice none 0 0) (by rw [q1]; simp [go_sem]) (by rw [q1]; simp [go_sem]) (noInt_bool _) (noInt_slice _ _ _)) HN2.out

theorem of_neg (N : Nat) (hN : N < 4611686018427387904) (hN0 : 0 < N) (w : World) :
    Calls Try.prog 67 #[.int .i64 (-(N : Nat) : Int)] w fun e w' => ∃ r, e = .returned r ∧ IntIs w' r (-(N : Int)) 2 ∧ Below w.heap.size w w' := by
  have hn2 : nl N ≤ 2 := by rw [nl_le]; omega
  have hv : valF (dig N) 2 = N := valF_dig_le N 2 hn2
  have HN := Lib.hid hN
  have hN2 : (N : Int) ≤ 4611686018427387903 := by omega
  have hdn : decide (-(N : Int) < 0) = true := by simp; omega
  have hwr : IntKind.u64.wrap (-IntKind.u64.wrap (-(N : Int))) = N := by rw [IntKind.wrap_u64, IntKind.wrap_u64]; omega
  clear hN
  have HV := Lib.hid hv
  have HN2 := Lib.hid hn2
  clear hv hn2
  go_enter Try.func67, Try.ntmps67
  go_wp2_with fail
  refine (trim_any _ (w.heap.size + 1) 0 2 2 (dig N) _ (by omega) (isSl_two N HN.out (by simp [go_sem]) (by simp [go_sem]) (by simp))).mono ?_
  rintro e w' ⟨rfl, hww⟩
  have hww2 := hww.symm
  clear hww
  subst hww2
  go_wp2_with fail
  refine (made_any _ _ N _ ?_).mono ?_
  · have := trim_mag (fun i _ => dig_lt N i) (isSl_two N HN.out (w := (w.alloc (Obj.cells #[Value.bool false, Value.slice none 0 0] 86)).alloc (Obj.cells #[Value.int IntKind.u32 ((N : Int) % 4294967296), Value.int IntKind.u32 ((N : Int) / 4294967296)] 111)) (b := w.heap.size + 1) (by simp [go_sem]) (by simp [go_sem]) (by simp))
    rw [HV.out] at this
    exact this
  · rintro e w1 ⟨rfl, hm, hb⟩
    have q1 := fun o => hb.cell (p := ⟨w.heap.size, o, none⟩) (by simp; omega)
    have q2 := fun o => hb.frozen (p := ⟨w.heap.size, o, none⟩) (by simp; omega)
    have hs1 : w.heap.size + 2 ≤ w1.heap.size := by (have := hb.size; simpa using this)
    go_wp2
    refine bodyPost_ret (v := .agg #[.bool (true && decide (0 < N)), .slice (some ⟨w.heap.size + 1, 0, none⟩) (trimN (dig N) 2) 2]) (by simp [results, Try.results67, go_sem, q1, q2]; exact hN0) rfl ?_
    have hbel := (boxes2 w (Obj.cells #[Value.bool false, Value.slice none 0 0] 86) (Obj.cells #[Value.int IntKind.u32 ((N : Int) % 4294967296), Value.int IntKind.u32 ((N : Int) / 4294967296)] 111)).trans (hb.mono (by simp; omega))
    refine ⟨_, rfl, ?_, (hbel.setCell (by simp) _).setCell (by simp) _⟩
    exact IntIs.mk (by simp [sgn]) (hm.store2 _ _ (v0 := .bool false) (v1 := .slice none 0 0) (by rw [q1]; simp [go_sem]) (by rw [q1]; simp [go_sem]) (noInt_bool _) (noInt_slice _ _ _)) HN2.out

theorem int_of (n : Int) (h1 : -4611686018427387904 < n) (h2 : n < 4611686018427387904) (w : World) :
    Calls Try.prog 67 #[.int .i64 n] w fun e w' => ∃ r, e = .returned r ∧ IntIs w' r n 2 ∧ Below w.heap.size w w' := by
  by_cases h : 0 ≤ n
  · obtain ⟨N, rfl⟩ := Int.eq_ofNat_of_zero_le h
    exact of_pos N (by omega) w
  · obtain ⟨N, hN⟩ := Int.eq_ofNat_of_zero_le (a := -n) (by omega)
    obtain rfl : n = -(N : Int) := by omega
    exact of_neg N (by omega) (by omega) w

set_option maxHeartbeats 1000000 in
theorem int_gcd (x y : Value) (p q : Int) (k : Nat) (w : World) (ha : IntIs w x p k) (hb : IntIs w y q k) (hk : k ≤ 549755813888) :
    Calls Try.prog 93 #[x, y] w fun e w' => ∃ r, e = .returned r ∧ IntIs w' r (Int.gcd p q : Nat) k ∧ Below w.heap.size w w' := by
  obtain ⟨u, rfl, hu, bu⟩ := ha
  obtain ⟨v, rfl, hv, bv⟩ := hb
  have HU := Lib.hid hu
  have HV := Lib.hid hv
  obtain ⟨a1, b1, o1, c1, rfl, i1⟩ := hu
  obtain ⟨a2, b2, o2, c2, rfl, i2⟩ := hv
  obtain ⟨s1, hs1⟩ : ∃ s, s = decide (p < 0) := ⟨_, rfl⟩
  obtain ⟨s2, hs2⟩ : ∃ s, s = decide (q < 0) := ⟨_, rfl⟩
  rw [← hs1, ← hs2]
  clear hs1 hs2
  have HB : Hid (Below w.heap.size w (((w.alloc (Obj.cells #[Value.bool s1, Value.slice a1 (nl p.natAbs) c1] 86)).alloc (Obj.cells #[Value.bool s2, Value.slice a2 (nl q.natAbs) c2] 86)).alloc (Obj.cells #[.bool false, .slice none 0 0] 86))) := boxes3 w _ _ _
  go_enter Try.func93, Try.ntmps93
  go_wp2
  go_quiet (fail)
  go_wp2
  go_loopg [5, 6] q.natAbs (fun g xv yv wr => ∃ X : Nat, Mag wr xv X ∧ Mag wr yv g ∧ nl X ≤ k ∧ nl g ≤ k ∧ Hid (Nat.gcd X g = Nat.gcd p.natAbs q.natAbs) ∧ w.heap.size + 3 ≤ wr.heap.size ∧ Hid (Below w.heap.size w wr) ∧
      wr.cell? ⟨w.heap.size + 1 + 1, 0, none⟩ = some (.bool false) ∧ wr.cell? ⟨w.heap.size + 1 + 1, 1, none⟩ = some (.slice none 0 0) ∧ (∀ o, wr.frozen? ⟨w.heap.size + 1 + 1, o, none⟩ = false))
  case atStart => exact ⟨p.natAbs, (HU.out.mono HB.out (Nat.le_refl _)).drawn (Drawn.of _ _), (HV.out.mono HB.out (Nat.le_refl _)).drawn (Drawn.of _ _), bu, bv, rfl, by simp, below_drawN HB.out _, by simp [go_sem], by simp [go_sem], fun o => by simp [go_sem]⟩
  case round =>
    obtain ⟨X, hX, hY, bX, bY, HG, hsz, HBW, hc0, hc1, hfz⟩ := hrel
    have HX := Lib.hid hX
    have HY := Lib.hid hY
    obtain ⟨ax, bx, ox, cx, rfl, ix⟩ := hX
    obtain ⟨ay, b_y, oy, cy, rfl, iy⟩ := hY
    clear ix iy i1 i2
    by_cases h0 : 0 < gk
    · have hn : 0 < nl gk := (nl_pos _).2 h0
      go_wp2_with (go_at_call 97; refine (part_any _ _ X gk _ HX.out HY.out h0 (by omega) (by omega)).mono ?_; rintro e w1 ⟨qv, rv, rfl, hq, hr, hb⟩)
      go_roundg (X % gk)
      case measure => exact Nat.mod_lt _ h0
      case rel =>
        refine ⟨gk, HY.out.mono hb (Nat.le_refl _), hr, bY, Nat.le_trans (nl_mono (Nat.le_of_lt (Nat.mod_lt _ h0))) bY, ?_, by have := hb.size; omega, HBW.out.trans (hb.mono (by omega)), ?_, ?_, ?_⟩
        · show _ = _
          rw [← HG.out, Nat.gcd_comm gk, ← Nat.gcd_rec, Nat.gcd_comm]
        · rw [hb.cell (p := ⟨_, 0, none⟩) (by dsimp only; omega)]; exact hc0
        · rw [hb.cell (p := ⟨_, 1, none⟩) (by dsimp only; omega)]; exact hc1
        · intro o; rw [hb.frozen (p := ⟨_, o, none⟩) (by dsimp only; omega)]; exact hfz o
    · obtain rfl : gk = 0 := by omega
      go_wp2_with (go_at_call 81; refine (made_any _ _ X _ HX.out).mono ?_; rintro e w2 ⟨rfl, hm2, hb2⟩; have p1 := fun o => hb2.cell (p := ⟨w.heap.size + 1 + 1, o, none⟩) (by dsimp only; omega); have p2 := fun o => hb2.frozen (p := ⟨w.heap.size + 1 + 1, o, none⟩) (by dsimp only; omega); have hz2 := hb2.size)
      refine bodyPost_ret (v := .agg #[.bool (false && decide (0 < X)), .slice ax (nl X) cx]) (by simp [results, Try.results93, go_sem, p1, p2, hc0, hc1, hfz]) rfl ?_
      refine ⟨_, rfl, ?_, ((HBW.out.trans (hb2.mono (by omega))).setCell (by simp; omega) _).setCell (by simp; omega) _⟩
      refine IntIs.mk ?_ (hm2.store2 _ _ (v0 := .bool false) (v1 := .slice none 0 0) (by rw [p1]; exact hc0) (by rw [p1]; exact hc1) (noInt_bool _) (noInt_slice _ _ _)) bX
      have := HG.out
      rw [Nat.gcd_zero_right] at this
      show ((Int.gcd p q : Nat) : Int) = (X : Int)
      rw [this]; rfl

end Go.Proofs.Ytgmopcncbpdniaa
