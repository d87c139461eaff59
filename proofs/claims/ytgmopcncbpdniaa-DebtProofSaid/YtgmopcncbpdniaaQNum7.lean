/- up and down of package num: a size times, or divided by, a power of 2 below 2^32. -/
import Derived.Test.YtgmopcncbpdniaaQNum5
import Derived.Test.YtgmopcncbpdniaaQKnuth2
set_option linter.unusedVariables false
set_option linter.unusedSimpArgs false
namespace Go.Proofs.Ytgmopcncbpdniaa
open Go.RowKit

theorem shl_in (d s p : Nat) (hp : p = 2 ^ s) (hp2 : p ≤ 2147483648) (hd : d < 4294967296) : IntKind.u64.wrap ((d : Int) * 2 ^ s) = ((d * p : Nat) : Int) := by
  have e : ((2 : Int) ^ s) = ((p : Nat) : Int) := by rw [hp]; simp
  have h1 : d * p ≤ 4294967295 * 2147483648 := Nat.mul_le_mul (by omega) hp2
  rw [e, ← Int.natCast_mul]
  exact IntWalk.u64_in _ ⟨by omega, by omega⟩

theorem or_low (f d s p : Nat) (hp : p = 2 ^ s) (hs : s < 32) (hp2 : p ≤ 2147483648) (hf : f < p) :
    bits BinOp.or IntKind.u32 (f : Int) (((d * p : Nat) : Int) % 4294967296) = ((f + d * p % 4294967296 : Nat) : Int) := by
  have e : (((d * p : Nat) : Int) % 4294967296) = ((d * p % 4294967296 : Nat) : Int) := by omega
  rw [e, u32_or_nat _ _ (by omega) (Nat.mod_lt _ (by omega)), Nat.or_comm]
  congr 1
  rw [nat_join s _ _ ?_ (by omega), Nat.add_comm]
  rw [← hp]
  have h : 4294967296 = p * 2 ^ (32 - s) := by
    rw [hp, ← Nat.pow_add, show s + (32 - s) = 32 from by omega]
  rw [h, Nat.mul_comm d p, Nat.mul_mod_mul_left, Nat.mul_mod_right]

theorem up_step (v xk d p fk P : Nat) (h : v + fk * P = xk * p) :
    v + (fk + d * p % 4294967296) * P + d * p / 4294967296 * (P * 4294967296) = (xk + d * P) * p := by
  have e := Nat.div_add_mod (d * p) 4294967296
  generalize d * p / 4294967296 = q at *
  generalize d * p % 4294967296 = r at *
  have e2 : (xk + d * P) * p = xk * p + d * p * P := by grind
  rw [e2, ← h, ← e]
  grind

/-- 4294967295 * p fits -/
theorem up_hi (d p : Nat) (hd : d < 4294967296) (hp : 0 < p) : d * p / 4294967296 < p := by
  rw [Nat.div_lt_iff_lt_mul (by omega), Nat.mul_comm p]
  exact Nat.mul_lt_mul_of_pos_right hd hp

set_option maxHeartbeats 1000000 in
theorem up_any (u : Value) (x s : Nat) (w : World) (hu : Mag w u x) (hs : s < 32) (bx : nl x ≤ 1099511627776) :
    Calls Try.prog 99 #[u, .int .i64 s] w fun e w' => e = .returned (.slice (some ⟨w.heap.size, 0, none⟩) (nl x + 1) (nl x + 1)) ∧
      w'.rowIs w.heap.size 111 (nl x + 1) (lc (x * 2 ^ s)) ∧ Below w.heap.size w w' := by
  obtain ⟨a1, b1, o1, c1, rfl, i1⟩ := hu
  have hmk := run_make_row' (P := Try.prog) 84 111 (.int .u32 0) 4 Try.underlying84 info32 rfl .i64 .i64 (nl x + 1) (by omega) (by omega)
  have ec : ((nl x + 1 : Nat) : Int) = (nl x : Int) + 1 := by omega
  rw [ec] at hmk
  clear ec
  have hrow := World.rowIs_made w (.int .u32 0) (nl x + 1) 111
  have hbel : Below w.heap.size w (w.alloc (.cells (madeCells #[.int .u32 0] (nl x + 1)) 111)) := (Below.refl _ _).alloc (Nat.le_refl _) _
  have HR := Lib.hid hrow
  have HB := Lib.hid hbel
  clear hrow hbel
  have hp1 : 1 ≤ 2 ^ s := Nat.one_le_two_pow
  have hp2 : 2 ^ s ≤ 2147483648 := by
    have := Nat.pow_le_pow_right (n := 2) (by omega) (show s ≤ 31 by omega)
    omega
  obtain ⟨p, hp⟩ : ∃ p, p = 2 ^ s := ⟨_, rfl⟩
  rw [← hp] at hp1 hp2 ⊢
  have HP := Lib.hid hp
  clear hp
  go_enter Try.func99, Try.ntmps99
  go_wp2
  go_loopw [15] (fun i wr => ∃ (k : Nat) (f : Nat → Nat), k ≤ nl x ∧ i = .int .i64 k ∧ wr.rowIs w.heap.size 111 (nl x + 1) (fun j => .int .u32 (f j : Nat)) ∧
      (∀ j, j < k → f j < 4294967296) ∧ f k < p ∧ (∀ j, k < j → f j = 0) ∧ valF f (k + 1) = valF (dig x) k * p ∧ Below w.heap.size w wr) (fun i _ => nl x - (intOf i).toNat)
  case atStart => exact ⟨0, fun _ => 0, Nat.zero_le _, rfl, HR.out, fun j hj => by omega, hp1, fun _ _ => rfl, by simp [valF], HB.out⟩
  case round =>
    obtain ⟨k, f, hk, rfl, hrow, hf, hfk, hz, hv, hb⟩ := hrel
    have HV := Lib.hid hv
    have HF := Lib.hid hf
    have HZ := Lib.hid hz
    clear hv hf hz hmk
    by_cases hlt : k < nl x
    · have j1 := i1.mono hb (Nat.le_refl _)
      have hc1 := j1.cell k hlt
      have hx1 := fun W => ix32 j1 (k : Int) (by omega) (by omega) (nl x) c1 W
      simp only [Int.toNat_natCast] at hx1
      simp only [lc] at hc1
      have hdx := dig_lt x k
      have hc := hrow.cell (i := k) (by omega)
      have hcb := hrow.cell (i := k + 1) (by omega)
      have hfz := hrow.frozen k
      have hfz1 := hrow.frozen (k + 1)
      clear j1
      go_wp2
      have HW := Lib.hid (shl_in (dig x k) s p HP.out hp2 hdx)
      have HO := Lib.hid (or_low (f k) (dig x k) s p HP.out hs hp2 hfk)
      have HH := Lib.hid (up_hi (dig x k) p hdx hp1)
      go_roundw
      case rel =>
        rw [HW.out, HO.out]
        have hh := HH.out
        refine ⟨k + 1, upd (upd f k (f k + dig x k * p % 4294967296)) (k + 1) (dig x k * p / 4294967296), by omega, by go_num, row_upd (row_upd hrow _ _ rfl) _ _ (by congr 1; omega), ?_, by rw [upd_self]; exact hh, ?_, ?_,
          (hb.setCell (Nat.le_refl _) _).setCell (Nat.le_refl _) _⟩
        · intro j hj
          unfold upd
          rw [if_neg (by omega)]
          split
          · have hr : dig x k * p % 4294967296 + p ≤ 4294967296 := by
              have h : 4294967296 = p * 2 ^ (32 - s) := by
                rw [HP.out, ← Nat.pow_add, show s + (32 - s) = 32 from by omega]
              have h2 : dig x k * p % 4294967296 = p * (dig x k % 2 ^ (32 - s)) := by
                rw [h, Nat.mul_comm _ p, Nat.mul_mod_mul_left]
              have h3 : dig x k % 2 ^ (32 - s) + 1 ≤ 2 ^ (32 - s) := Nat.mod_lt _ (Nat.two_pow_pos _)
              have h4 := Nat.mul_le_mul_left p h3
              rw [← h, Nat.mul_add, Nat.mul_one] at h4
              omega
            omega
          · exact HF.out j (by omega)
        · intro j hj
          unfold upd
          rw [if_neg (by omega), if_neg (by omega)]
          exact HZ.out j (by omega)
        · have h := HV.out
          simp only [valF] at h
          have h2 := up_step _ _ (dig x k) _ _ _ h
          rw [valF, upd_self, valF_upd _ _ _ _ (Nat.le_refl _), valF, upd_self, valF_upd _ _ _ _ (Nat.le_refl _), Nat.pow_succ]
          simp only [valF]
          exact h2
      case measure => simp [intOf]; omega
    · obtain rfl : k = nl x := by omega
      go_wp2
      go_ret
      refine ⟨rfl, ?_, hb⟩
      have hall : ∀ j, j < nl x + 1 → f j < 4294967296 := fun j hj => by
        by_cases e : j = nl x
        · rw [e]; omega
        · exact HF.out j (by omega)
      have hval : valF f (nl x + 1) = x * p := by rw [HV.out, valF_nl]
      refine hrow.congr (fun j hj => ?_)
      rw [← hval, lc, dig_valF f _ hall j hj]
end Go.Proofs.Ytgmopcncbpdniaa

/- down of package num: a size divided by a power of 2 below 2^32. -/
set_option linter.unusedVariables false
set_option linter.unusedSimpArgs false
namespace Go.Proofs.Ytgmopcncbpdniaa
open Go.RowKit

theorem down_dig (x k s p : Nat) (hp : p = 2 ^ s) (hs : s < 32) : dig (x / p) k = (dig x k + dig x (k + 1) * 4294967296) / p % 4294967296 := by
  have hp0 : 0 < p := by rw [hp]; exact Nat.two_pow_pos _
  have h : 4294967296 = p * 2 ^ (32 - s) := by
    rw [hp, ← Nat.pow_add, show s + (32 - s) = 32 from by omega]
  have e1 : dig (x / p) k = (x / 4294967296 ^ k) / p % 4294967296 := by
    unfold dig; rw [Nat.div_div_eq_div_mul, Nat.div_div_eq_div_mul, Nat.mul_comm]
  have e2 : dig x k = (x / 4294967296 ^ k) % 4294967296 := rfl
  have e3 : dig x (k + 1) = (x / 4294967296 ^ k) / 4294967296 % 4294967296 := by
    unfold dig; rw [Nat.pow_succ, Nat.div_div_eq_div_mul]
  rw [e1, e2, e3]
  generalize x / 4294967296 ^ k = u
  have d1 := Nat.div_add_mod u 4294967296
  have d2 := Nat.div_add_mod (u / 4294967296) 4294967296
  generalize hr : u % 4294967296 + u / 4294967296 % 4294967296 * 4294967296 = r
  have e4 : u = p * (2 ^ (32 - s) * 4294967296 * (u / 4294967296 / 4294967296)) + r := by
    have : p * (2 ^ (32 - s) * 4294967296 * (u / 4294967296 / 4294967296)) = 4294967296 * (4294967296 * (u / 4294967296 / 4294967296)) := by
      calc p * (2 ^ (32 - s) * 4294967296 * (u / 4294967296 / 4294967296)) = (p * 2 ^ (32 - s)) * (4294967296 * (u / 4294967296 / 4294967296)) := by ac_rfl
        _ = _ := by rw [← h]
    rw [this]
    omega
  have e5 : u / p = 2 ^ (32 - s) * 4294967296 * (u / 4294967296 / 4294967296) + r / p := by
    conv => lhs; rw [e4]
    rw [Nat.add_comm, Nat.add_mul_div_left _ _ hp0, Nat.add_comm]
  rw [e5, Nat.add_comm]
  have e6 : 2 ^ (32 - s) * 4294967296 * (u / 4294967296 / 4294967296) = 4294967296 * (2 ^ (32 - s) * (u / 4294967296 / 4294967296)) := by ac_rfl
  rw [e6, Nat.add_mul_mod_self_left]

theorem or_hi (d e : Nat) (hd : d < 4294967296) (he : e < 4294967296) : bits BinOp.or IntKind.u64 (d : Int) ((e : Int) * 4294967296) = ((d + e * 4294967296 : Nat) : Int) := by
  have e1 : ((e : Int) * 4294967296) = ((e * 4294967296 : Nat) : Int) := by omega
  rw [e1, u64_or_nat _ _ (by omega) (by omega), Nat.or_comm]
  congr 1
  rw [nat_join 32 _ _ (by omega) (by omega), Nat.add_comm]

theorem two_pow_cast (s p : Nat) (hp : p = 2 ^ s) : ((2 : Int) ^ s) = (p : Int) := by rw [hp]; simp

set_option maxHeartbeats 1000000 in
theorem down_any (u : Value) (x s : Nat) (w : World) (hu : Mag w u x) (hs : s < 32) (bx : nl x ≤ 1099511627776) :
    Calls Try.prog 101 #[u, .int .i64 s] w fun e w' => ∃ r, e = .returned r ∧ Mag w' r (x / 2 ^ s) ∧ Below w.heap.size w w' := by
  obtain ⟨a1, b1, o1, c1, rfl, i1⟩ := hu
  have hmk := run_make_row' (P := Try.prog) 84 111 (.int .u32 0) 4 Try.underlying84 info32 rfl .i64 .i64 (nl x) (by omega) (by omega)
  have hrow := World.rowIs_made w (.int .u32 0) (nl x) 111
  have hbel : Below w.heap.size w (w.alloc (.cells (madeCells #[.int .u32 0] (nl x)) 111)) := (Below.refl _ _).alloc (Nat.le_refl _) _
  have HR := Lib.hid hrow
  have HB := Lib.hid hbel
  clear hrow hbel
  obtain ⟨p, hp⟩ : ∃ p, p = 2 ^ s := ⟨_, rfl⟩
  rw [← hp]
  have HP := Lib.hid hp
  clear hp
  go_enter Try.func101, Try.ntmps101
  go_wp2
  go_loopw [13] (fun i wr => ∃ (k : Nat) (f : Nat → Nat), k ≤ nl x ∧ i = .int .i64 k ∧ wr.rowIs w.heap.size 111 (nl x) (fun j => .int .u32 (f j : Nat)) ∧
      (∀ j, j < k → f j = dig (x / p) j) ∧ Below w.heap.size w wr) (fun i _ => nl x - (intOf i).toNat)
  case atStart => exact ⟨0, fun _ => 0, Nat.zero_le _, rfl, HR.out, fun j hj => by omega, HB.out⟩
  case round =>
    obtain ⟨k, f, hk, rfl, hrow, hf, hb⟩ := hrel
    have HF := Lib.hid hf
    clear hf hmk
    by_cases hlt : k < nl x
    · have j1 := i1.mono hb (Nat.le_refl _)
      have hc1 := j1.cell k hlt
      have hx1 := fun W => ix32 j1 (k : Int) (by omega) (by omega) (nl x) c1 W
      simp only [Int.toNat_natCast] at hx1
      simp only [lc] at hc1
      have hdx := dig_lt x k
      have hc := hrow.cell (i := k) (by omega)
      have hfz := hrow.frozen k
      have HD := Lib.hid (down_dig x k s p HP.out hs)
      have HT := Lib.hid (two_pow_cast s p HP.out)
      by_cases hlt1 : k + 1 < nl x
      · have hc2 := j1.cell (k + 1) hlt1
        have hx2 := fun W => ix32 j1 ((k : Int) + 1) (by omega) (by omega) (nl x) c1 W
        have en : ((k : Int) + 1).toNat = k + 1 := by omega
        rw [en] at hx2
        clear en
        simp only [lc] at hc2
        have hdx2 := dig_lt x (k + 1)
        have hor := or_hi (dig x k) (dig x (k + 1)) hdx hdx2
        clear j1
        go_wp2
        go_roundw
        case rel =>
          refine ⟨k + 1, upd f k (dig (x / p) k), by omega, by go_num, row_upd hrow _ _ ?_, ?_, hb.setCell (Nat.le_refl _) _⟩
          · rw [HT.out, HD.out]; congr 1
          · intro j hj
            unfold upd
            split
            · rename_i e; rw [e]
            · exact HF.out j (by omega)
        case measure => simp [intOf]; omega
      · clear j1
        go_wp2
        go_roundw
        case rel =>
          refine ⟨k + 1, upd f k (dig (x / p) k), by omega, by go_num, row_upd hrow _ _ ?_, ?_, hb.setCell (Nat.le_refl _) _⟩
          · rw [HT.out, HD.out, dig_zero_of_lt (lt_pow_nl x) (show nl x ≤ k + 1 by omega)]; congr 1
          · intro j hj
            unfold upd
            split
            · rename_i e; rw [e]
            · exact HF.out j (by omega)
        case measure => simp [intOf]; omega
    · obtain rfl : k = nl x := by omega
      have hval : valF f (nl x) = x / p := by
        rw [valF_congr HF.out, valF_dig]
        exact Nat.mod_eq_of_lt (Nat.lt_of_le_of_lt (Nat.div_le_self _ _) (lt_pow_nl x))
      have hlt : ∀ j, j < nl x → f j < 4294967296 := fun j hj => by rw [HF.out j hj]; exact dig_lt _ _
      have HVAL := Lib.hid hval
      have HLT := Lib.hid hlt
      clear hval hlt
      go_wp2_with (go_at_call 85; refine (trim_any _ w.heap.size 0 _ _ f _ (by omega) (IsSl.of_row hrow (Nat.le_refl _) _ (Nat.le_refl _))).mono ?_; rintro e w' ⟨rfl, rfl⟩)
      go_ret
      refine ⟨.slice (some ⟨w.heap.size, 0, none⟩) (trimN f (nl x)) (nl x), rfl, ?_, hb⟩
      rw [← HVAL.out]
      exact trim_mag HLT.out (IsSl.of_row hrow (Nat.le_refl _) _ (Nat.le_refl _))
end Go.Proofs.Ytgmopcncbpdniaa
