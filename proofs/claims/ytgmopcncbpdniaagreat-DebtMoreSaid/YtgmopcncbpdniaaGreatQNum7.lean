/- down of package num: a size divided by a power of 2 below 2^32. -/
import Derived.Test.YtgmopcncbpdniaaGreatQNum6
set_option linter.unusedVariables false
set_option linter.unusedSimpArgs false
namespace Go.Proofs.YtgmopcncbpdniaaGreat
open Go.RowKit

theorem down_dig (x k s p : Nat) (hp : p = 2 ^ s) (hs : s < 32) : dig (x / p) k = (dig x k + dig x (k + 1) * 4294967296) / p % 4294967296 := by
  have hp0 : 0 < p := by rw [hp]; exact Nat.two_pow_pos _
  have h : 4294967296 = p * 2 ^ (32 - s) := by
    rw [hp, ← Nat.pow_add, show s + (32 - s) = 32 from by omega]
  have e1 : dig (x / p) k = (x / 4294967296 ^ k) / p % 4294967296 := by
    unfold dig; rw [Nat.div_div_eq_div_mul, Nat.div_div_eq_div_mul, Nat.mul_comm]
  have e2 : dig x k = (x / 4294967296 ^ k) % 4294967296 := rfl
  have e3 : dig x (k + 1) = (x / 4294967296 ^ k) / 4294967296 % 4294967296 := by
    unfold dig; rw [Nat.pow_succ, Nat.div_div_eq_div_mul]
  rw [e1, e2, e3]
  generalize x / 4294967296 ^ k = u
  have d1 := Nat.div_add_mod u 4294967296
  have d2 := Nat.div_add_mod (u / 4294967296) 4294967296
  generalize hr : u % 4294967296 + u / 4294967296 % 4294967296 * 4294967296 = r
  have e4 : u = p * (2 ^ (32 - s) * 4294967296 * (u / 4294967296 / 4294967296)) + r := by
    have : p * (2 ^ (32 - s) * 4294967296 * (u / 4294967296 / 4294967296)) = 4294967296 * (4294967296 * (u / 4294967296 / 4294967296)) := by
      calc p * (2 ^ (32 - s) * 4294967296 * (u / 4294967296 / 4294967296)) = (p * 2 ^ (32 - s)) * (4294967296 * (u / 4294967296 / 4294967296)) := by ac_rfl
        _ = _ := by rw [← h]
    rw [this]
    omega
  have e5 : u / p = 2 ^ (32 - s) * 4294967296 * (u / 4294967296 / 4294967296) + r / p := by
    conv => lhs; rw [e4]
    rw [Nat.add_comm, Nat.add_mul_div_left _ _ hp0, Nat.add_comm]
  rw [e5, Nat.add_comm]
  have e6 : 2 ^ (32 - s) * 4294967296 * (u / 4294967296 / 4294967296) = 4294967296 * (2 ^ (32 - s) * (u / 4294967296 / 4294967296)) := by ac_rfl
  rw [e6, Nat.add_mul_mod_self_left]

theorem or_hi (d e : Nat) (hd : d < 4294967296) (he : e < 4294967296) : bits BinOp.or IntKind.u64 (d : Int) ((e : Int) * 4294967296) = ((d + e * 4294967296 : Nat) : Int) := by
  have e1 : ((e : Int) * 4294967296) = ((e * 4294967296 : Nat) : Int) := by omega
  rw [e1, u64_or_nat _ _ (by omega) (by omega), Nat.or_comm]
  congr 1
  rw [nat_join 32 _ _ (by omega) (by omega), Nat.add_comm]

theorem two_pow_cast (s p : Nat) (hp : p = 2 ^ s) : ((2 : Int) ^ s) = (p : Int) := by rw [hp]; simp

set_option maxHeartbeats 1000000 in
theorem down_any (u : Value) (x s : Nat) (w : World) (hu : Mag w u x) (hs : s < 32) (bx : nl x ≤ 1099511627776) :
    Calls Tryz.prog 149 #[u, .int .i64 s] w fun e w' => ∃ r, e = .returned r ∧ Mag w' r (x / 2 ^ s) ∧ Below w.heap.size w w' := by
  obtain ⟨a1, b1, o1, c1, rfl, i1⟩ := hu
  have hmk := run_make_row' (P := Tryz.prog) 88 145 (.int .u32 0) 4 Tryz.underlying88 info32 rfl .i64 .i64 (nl x) (by omega) (by omega)
  have hrow := World.rowIs_made w (.int .u32 0) (nl x) 145
  have hbel : Below w.heap.size w (w.alloc (.cells (madeCells #[.int .u32 0] (nl x)) 145)) := (Below.refl _ _).alloc (Nat.le_refl _) _
  have HR := Lib.hid hrow
  have HB := Lib.hid hbel
  clear hrow hbel
  obtain ⟨p, hp⟩ : ∃ p, p = 2 ^ s := ⟨_, rfl⟩
  rw [← hp]
  have HP := Lib.hid hp
  clear hp
  go_enter Tryz.func149, Tryz.ntmps149
  go_wp2
  go_loopw [13] (fun i wr => ∃ (k : Nat) (f : Nat → Nat), k ≤ nl x ∧ i = .int .i64 k ∧ wr.rowIs w.heap.size 145 (nl x) (fun j => .int .u32 (f j : Nat)) ∧
      (∀ j, j < k → f j = dig (x / p) j) ∧ Below w.heap.size w wr) (fun i _ => nl x - (intOf i).toNat)
  case atStart => exact ⟨0, fun _ => 0, Nat.zero_le _, rfl, HR.out, fun j hj => by omega, HB.out⟩
  case round =>
    obtain ⟨k, f, hk, rfl, hrow, hf, hb⟩ := hrel
    have HF := Lib.hid hf
    clear hf hmk
    by_cases hlt : k < nl x
    · have j1 := i1.mono hb (Nat.le_refl _)
      have hc1 := j1.cell k hlt
      have hx1 := fun W => ix32 j1 (k : Int) (by omega) (by omega) (nl x) c1 W
      simp only [Int.toNat_natCast] at hx1
      simp only [lc] at hc1
      have hdx := dig_lt x k
      have hc := hrow.cell (i := k) (by omega)
      have hfz := hrow.frozen k
      have HD := Lib.hid (down_dig x k s p HP.out hs)
      have HT := Lib.hid (two_pow_cast s p HP.out)
      by_cases hlt1 : k + 1 < nl x
      · have hc2 := j1.cell (k + 1) hlt1
        have hx2 := fun W => ix32 j1 ((k : Int) + 1) (by omega) (by omega) (nl x) c1 W
        have en : ((k : Int) + 1).toNat = k + 1 := by omega
        rw [en] at hx2
        clear en
        simp only [lc] at hc2
        have hdx2 := dig_lt x (k + 1)
        have hor := or_hi (dig x k) (dig x (k + 1)) hdx hdx2
        clear j1
        go_wp2
        go_roundw
        case rel =>
          refine ⟨k + 1, upd f k (dig (x / p) k), by omega, by go_num, row_upd hrow _ _ ?_, ?_, hb.setCell (Nat.le_refl _) _⟩
          · rw [HT.out, HD.out]; congr 1
          · intro j hj
            unfold upd
            split
            · rename_i e; rw [e]
            · exact HF.out j (by omega)
        case measure => simp [intOf]; omega
      · clear j1
        go_wp2
        go_roundw
        case rel =>
          refine ⟨k + 1, upd f k (dig (x / p) k), by omega, by go_num, row_upd hrow _ _ ?_, ?_, hb.setCell (Nat.le_refl _) _⟩
          · rw [HT.out, HD.out, dig_zero_of_lt (lt_pow_nl x) (show nl x ≤ k + 1 by omega)]; congr 1
          · intro j hj
            unfold upd
            split
            · rename_i e; rw [e]
            · exact HF.out j (by omega)
        case measure => simp [intOf]; omega
    · obtain rfl : k = nl x := by omega
      have hval : valF f (nl x) = x / p := by
        rw [valF_congr HF.out, valF_dig]
        exact Nat.mod_eq_of_lt (Nat.lt_of_le_of_lt (Nat.div_le_self _ _) (lt_pow_nl x))
      have hlt : ∀ j, j < nl x → f j < 4294967296 := fun j hj => by rw [HF.out j hj]; exact dig_lt _ _
      have HVAL := Lib.hid hval
      have HLT := Lib.hid hlt
      clear hval hlt
      go_wp2_with (go_at_call 125; refine (trim_any _ w.heap.size 0 _ _ f _ (by omega) (IsSl.of_row hrow (Nat.le_refl _) _ (Nat.le_refl _))).mono ?_; rintro e w' ⟨rfl, rfl⟩)
      go_ret
      refine ⟨.slice (some ⟨w.heap.size, 0, none⟩) (trimN f (nl x)) (nl x), rfl, ?_, hb⟩
      rw [← HVAL.out]
      exact trim_mag HLT.out (IsSl.of_row hrow (Nat.le_refl _) _ (Nat.le_refl _))
end Go.Proofs.YtgmopcncbpdniaaGreat
