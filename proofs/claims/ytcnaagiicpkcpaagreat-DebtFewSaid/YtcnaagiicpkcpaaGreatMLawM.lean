/- The law DebtFew: its walk. (Printed by gen_lawm.py.) -/
import Derived.Test.YtcnaagiicpkcpaaGreatMLawL
import Derived.Deep.RegionHeld3
import Derived.Deep.AppendLies
import Derived.Deep.DeepCutAuto
import Derived.Deep.CutBlock
set_option linter.unusedVariables false
set_option linter.unusedSimpArgs false
namespace Go.Proofs.YtcnaagiicpkcpaaGreat
open Go.RowKit
attribute [local go_sem ↓] Go.wp_at_zero Go.wp_at_succ
theorem i8_s : Tryz.prog.underlying 36 = some (.slice (Tryz.prog.elem 36)) := by kernel_rfl
theorem i8_z (W : World) : (sizeOf (Tryz.prog.elem 36)).run Tryz.prog W = .ok 1 W := by kernel_rfl
theorem ixT8 {w : World} {a : Option Addr} {b o c n : Nat} {g : Nat → Value} (h : IsSl w a b o c n g) (i d : Nat) (hi : i < n) (W : World) :
    (Instr.indexAt 36 (.slice a n d) (.int .i64 (i : Int))).run Tryz.prog W = .ok (.pointer (some ⟨b, o + i, none⟩)) W :=
  run_indexAt_opt 36 i8_s i8_z a b o n d (fun q => h.at_ q) .i64 i (by omega) (by omega) W
/-- balances out of m numbers: the last one makes the sum 0 -/
def fewF (m : Nat) (fx : Nat → Int) (i : Nat) : Int := if i < m then fx i else -sumF fx m
theorem few_ics (m : Nat) (fx : Nat → Int) : ics fx m ++ [.int .i64 (-sumF fx m)] = ics (fewF m fx) (m + 1) := by
  have e : ics fx m = ics (fewF m fx) m := List.map_congr_left (fun i hi => by
    have := List.mem_range.1 hi
    simp only [ic, fewF, if_pos this])
  rw [e, ← ics_succ]
  have e2 : fewF m fx m = -sumF fx m := by unfold fewF; rw [if_neg (by omega)]
  rw [e2]
theorem few_bal {m : Nat} {fx : Nat → Int} (h9 : m ≤ 9) (hb : ∀ i, i < m → -128 ≤ fx i ∧ fx i ≤ 127) : Balances (m + 1) (fewF m fx) := by
  have h1 := sumF_bound fx m 128 (fun i hi => by have := hb i hi; omega)
  refine ⟨by omega, by omega, fun i hi => ?_, ?_⟩
  · unfold fewF
    by_cases e : i < m
    · rw [if_pos e]; have := hb i e; omega
    · rw [if_neg e]; omega
  · simp only [sumF]
    rw [sumF_congr (g := fx) (fun i hi => by unfold fewF; rw [if_pos hi])]
    unfold fewF; rw [if_neg (by omega)]; omega
theorem bal_neg {n : Nat} {f : Nat → Int} (h : Balances n f) : Balances n (fun i => -f i) := by
  have e : ∀ k, sumF (fun i => -f i) k = -sumF f k := fun k => by
    induction k with
    | zero => rfl
    | succ k ih => simp only [sumF, ih]; omega
  refine ⟨h.1, h.2.1, fun i hi => ?_, ?_⟩
  · have := h.2.2.1 i hi
    show -10000 ≤ -f i ∧ -f i ≤ 10000
    omega
  · rw [e, h.2.2.2]; rfl
theorem mem_sum (f : Nat → Int) (s : Nat) : ∀ k, sumF (fun t => f ((mem s k).getD t 0)) (mem s k).length = smI f s k
  | 0 => rfl
  | k + 1 => by
    have ih := mem_sum f s k
    simp only [smI]
    rw [mem_succ]
    by_cases hb : s.testBit k = true
    · rw [if_pos hb, if_pos hb]
      have e : (mem s k ++ [k]).length = (mem s k).length + 1 := by simp
      rw [e]
      simp only [sumF]
      rw [sumF_congr (g := fun t => f ((mem s k).getD t 0)) (fun i hi => by simp [List.getD_eq_getElem?_getD, List.getElem?_append_left hi]), ih]
      simp
    · rw [if_neg hb, if_neg hb, List.append_nil, ih]; omega
/-- the firms seen behind j members of a group -/
def seenM (left : Nat) (G : List Nat) (j : Nat) (i : Nat) : Bool := !left.testBit i || decide (i ∈ G.take j)
theorem seenM_new {left s j : Nat} (hs : Sb s left) (h : j < (mem s 10).length) : seenM left (mem s 10) j ((mem s 10).getD j 0) = false := by
  have hm := memb_at (n := 10) s j h
  unfold seenM
  rw [hs.bit hm.2]
  have hn : ¬ (mem s 10).getD j 0 ∈ (mem s 10).take j := fun hq => by
    obtain ⟨i, hi, e⟩ := List.getElem_of_mem hq
    rw [List.length_take] at hi
    rw [List.getElem_take] at e
    have := mem_rise s 10 i j (by omega) h
    have e2 : (mem s 10).getD i 0 = (mem s 10)[i]'(by omega) := by simp [show i < (mem s 10).length by omega]
    rw [e2, e] at this
    omega
  rw [decide_eq_false hn]; rfl
theorem seenM_step {left : Nat} {G : List Nat} {j : Nat} (h : j < G.length) (i : Nat) : (if i = G.getD j 0 then true else seenM left G j i) = seenM left G (j + 1) i := by
  unfold seenM
  have e : G.take (j + 1) = G.take j ++ [G.getD j 0] := by rw [List.take_add_one]; simp [h]
  rw [e]
  by_cases q : i = G.getD j 0
  · rw [if_pos q, q]; simp
  · rw [if_neg q]
    have : (i ∈ G.take j ++ [G.getD j 0]) ↔ i ∈ G.take j := by rw [List.mem_append]; simp only [List.mem_singleton, q, or_false]
    simp only [this]
theorem seenM_end {left s : Nat} (hs : Sb s left) (i : Nat) (hi : i < 10) : seenM left (mem s 10) (mem s 10).length i = !(left - s).testBit i := by
  unfold seenM
  rw [List.take_length, rest_bit hs]
  have := mem_mem s 10 i
  rcases hb : s.testBit i with _ | _
  · have : ¬ i ∈ mem s 10 := fun q => by have := (this.1 q).2; rw [hb] at this; cases this
    simp [this]
  · have : i ∈ mem s 10 := this.2 ⟨hi, hb⟩
    simp [this]
set_option maxHeartbeats 8000000 in
set_option maxRecDepth 100000 in
theorem lawFew (vx : Value) (n0 : Nat) (fx : Nat → Int) (w : World) (hx : Sl w vx n0 (fun i => .int .i8 (fx i))) (hbx : ∀ i, i < n0 → -128 ≤ fx i ∧ fx i ≤ 127) (b1 : n0 ≤ maxLen) :
    Calls Tryz.prog 4 #[vx] w fun e w' => e = .returned (.bool true) ∧ Below w.heap.size w w' := by
  obtain ⟨xa, xb, xo, xc, rfl, hs⟩ := hx
  obtain ⟨i0, hinf, hz0, hz1, hz2⟩ := info_parts infoI
  obtain ⟨m, hm⟩ : ∃ m, m = min n0 9 := ⟨_, rfl⟩
  have hm9 : m ≤ 9 := by omega
  have hmn : m ≤ n0 := by omega
  have HMM := Lib.hid hm
  have HX := Lib.hid hs
  have HBX := Lib.hid hbx
  have hn63 : n0 ≤ 9223372036854775807 := b1
  have OW0 := Lib.hid (World.ownsRow_made (e := 3) (base := w.heap.size) (size := 1) w #[] 0 (Nat.le_refl _) (by unfold maxLen; omega) rfl)
  have K0 := Lib.hid ((Below.refl w.heap.size w).alloc (Nat.le_refl _) (.cells #[] 3))
  clear hm hs hbx b1
  go_enter Tryz.func4, Tryz.ntmps4
  go_upto_block 0 with fail
  go_cut [3, 4] (fun v3 v4 wx => ∃ va vk, v3 = .slice va m vk ∧ v4 = .int .i64 (sumF fx m) ∧ Hid (wx.ownsRow w.heap.size 3 1 (.slice va m vk) m (ics fx m)) ∧ Hid (Below w.heap.size w wx))
  case first =>
    go_wp2_with fail
    go_loopw [3, 4, 5] (fun v3 v4 v5 wr => ∃ k : Nat, k ≤ m ∧ v5 = .int .i64 (k : Nat) ∧ v4 = .int .i64 (sumF fx k) ∧ ∃ va vk, v3 = .slice va k vk ∧ Hid (wr.ownsRow w.heap.size 3 1 (.slice va k vk) k (ics fx k)) ∧ Hid (Below w.heap.size w wr)) (fun _ _ v5 _ => m - (intOf v5).toNat)
    case atStart => exact ⟨0, by omega, rfl, rfl, _, 0, rfl, OW0, K0⟩
    case round =>
      clear OW0 K0
      obtain ⟨k, hk, rfl, rfl, va, vk, rfl, OW, K2⟩ := hrel
      by_cases h : k < m
      · have hkn : k < n0 := by omega
        have e1 : decide ((k : Int) < (n0 : Int)) = true := by simpa using hkn
        have e1n : decide (k < n0) = true := by simpa using hkn
        have e2 : decide ((k : Int) < 9) = true := by simp; omega
        have ix := fun W => ixT8 HX.out k xc hkn W
        have y0 := (HX.out.mono K2.out (Nat.le_refl _)).cell k hkn
        have hr := HBX.out k hkn
        have hsb := sumF_bound fx k 128 (fun i hi => by have := HBX.out i (by omega); omega)
        obtain ⟨z, hz⟩ : ∃ z, z = fx k := ⟨_, rfl⟩
        obtain ⟨S, hS⟩ : ∃ S, S = sumF fx k := ⟨_, rfl⟩
        rw [← hS] at hsb ⊢
        rw [← hz] at hr y0
        have HZ := Lib.hid hz
        have HSS := Lib.hid hS
        have hw1 : IntKind.i64.wrap z = z := by rw [IntKind.wrap_i64]; omega
        have hw2 : IntKind.i64.wrap (S + z) = S + z := by rw [IntKind.wrap_i64]; omega
        have HSZ := Lib.hid K2.out.size
        have HBK := Lib.hid OW.out.lt
        have HZL : Hid (xb < w.heap.size) := Lib.hid (HX.out.lt (by omega))
        clear hz hS
        go_wp2
        go_region_held3 (fun w' => w'.cell? ⟨xb, xo + k, none⟩ = some (.int .i8 z))
          (first
            | go_keep
            | (have q1 : Value.ownBlock (.slice va k vk) ≠ some xb := fun e => by have := (HBK.out xb e).1; have := HZL.out; omega
               have hz := HSZ.out
               have hz2 := HZL.out
               (rw [hgrow.cell_far _ (by simp; omega) (Ne.symm q1)]; assumption)))
          ((refine step_append_lies _ (by rfl) _ _ _ (by rfl) w.heap.size 3 i0 _ 1 8 Tryz.underlying22 hinf hz0 hz1 hz2 rfl (by omega) (.slice va k vk) k (ics fx k) (by rfl) (OW.out.alloc _)
              ⟨wr.heap.size, 0, none⟩ 1 1 [.int .i64 z] (by rfl) (by rfl) (new1 wr (.int .i64 z) _) (one1 _ rfl)
              (by omega) (by unfold maxLen; omega) (by omega) (by simp; have := HSZ.out; omega) (wr.heap.size + 1) (by simp) ?_; intro gg cap w3 hown hgrow hat hlt))
        have K3 := Lib.hid (((K2.out.alloc K2.out.size _).drew).grown hgrow (by have := HSZ.out; simp; omega) (fun kk e => (HBK.out kk e).1))
        rw [HZ.out, ics_succ] at hown
        have OW3 := Lib.hid hown
        clear hown hgrow hat hlt
        go_wp2
        go_roundw
        case rel => exact ⟨k + 1, by omega, by go_num, by simp only [sumF]; rw [HSS.out, HZ.out], _, _, rfl, OW3, K3⟩
        case measure => simp [intOf]; omega
      · obtain rfl : m = k := by omega
        by_cases h2 : m < n0
        · have e1 : decide ((m : Int) < (n0 : Int)) = true := by simpa using h2
          have e1n : decide (m < n0) = true := by simpa using h2
          have e2 : decide ((m : Int) < 9) = false := by have := HMM.out; simp; omega
          go_wp2_with fail
          go_meet
          case rel => exact ⟨va, vk, rfl, rfl, OW, K2⟩
        · have e1 : decide ((m : Int) < (n0 : Int)) = false := by simpa using h2
          have e1n : decide (m < n0) = false := by simpa using h2
          go_wp2_with fail
          go_meet
          case rel => exact ⟨va, vk, rfl, rfl, OW, K2⟩
  case rest =>
    clear OW0 K0
    obtain ⟨va, vk, rfl, rfl, OW, KW⟩ := hcut
    have hsb := sumF_bound fx m 128 (fun i hi => by have := HBX.out i (by omega); omega)
    have HB0 := Lib.hid (few_bal hm9 (fun i hi => HBX.out i (by omega)))
    have hng : IntKind.i64.wrap (-sumF fx m) = -sumF fx m := by rw [IntKind.wrap_i64]; omega
    have HSZ := Lib.hid KW.out.size
    have HBK := Lib.hid OW.out.lt
    clear hsb
    go_wp2_with (at_builtin; refine wpList_append_own _ rfl (.tmp 49) (.tmp 52) 22 rfl w.heap.size 3 i0 (.int .i64 0) 1 8 Tryz.underlying22 hinf hz0 hz1 hz2 rfl (by decide) (.slice va m vk) m (ics fx m) rfl (OW.out.alloc _) ⟨wc.heap.size, 0, none⟩ 1 1 [.int .i64 (-sumF fx m)] rfl rfl (new1 wc (.int .i64 (-sumF fx m)) 3) (one1 _ rfl) (by unfold maxLen; omega) (by omega) (by simp; have := HSZ.out; omega) ?_; intro v' w5 hown hgrow _; have KW := Lib.hid ((KW.out.alloc KW.out.size _).grown hgrow (by have := HSZ.out; simp; omega) (fun kk e => (HBK.out kk e).1)); rw [few_ics] at hown; obtain ⟨vl, vm, rfl⟩ := own_shape hown; have HI := Lib.hid (ints_of_own hown); clear hown hgrow)
    obtain ⟨n, hn⟩ : ∃ n, n = m + 1 := ⟨_, rfl⟩
    obtain ⟨f, hf⟩ : ∃ f, f = fewF m fx := ⟨_, rfl⟩
    rw [← hf] at HI HB0
    rw [← hn] at HI HB0 ⊢
    have HB := HB0
    have hn10 : n ≤ 10 := HB.out.2.1
    have hn1 : 1 ≤ n := HB.out.1
    have HFR := Lib.hid HB.out.2.2.1
    obtain ⟨t, ht⟩ : ∃ t : Nat → Int, t = fun i => -f i := ⟨_, rfl⟩
    have HBT : Hid (Balances n t) := Lib.hid (by rw [ht]; exact bal_neg HB.out)
    have HFT := Lib.hid HBT.out.2.2.1
    have NEG : Hid (∀ L : List Nat, GrpP n f (2 ^ n - 1) L 0 → GrpP n t (2 ^ n - 1) L 0) := Lib.hid (fun L h => by rw [ht]; exact h.neg)
    have NZN : Hid (nzC t (2 ^ n - 1) n = nzC f (2 ^ n - 1) n) := Lib.hid (by rw [ht]; exact nzC_neg _ _)
    have HTT := Lib.hid ht
    have OT0 := Lib.hid (World.ownsRow_made (e := 3) (base := w5.heap.size) (size := 1) w5 #[] 0 (Nat.le_refl _) (by unfold maxLen; omega) rfl)
    have KT0 := Lib.hid ((Below.refl w5.heap.size w5).alloc (Nat.le_refl _) (.cells #[] 3))
    obtain ⟨la, lb, lo, lc, hlv, hls⟩ := HI.out
    cases hlv
    have HLS := Lib.hid hls
    clear HB0 OW HSZ HBK hng hm9 hmn HX HBX HMM hn63 hf hn ht hls
    go_loopw [6, 7, 8] (fun v6 v7 v8 wr => ∃ k : Nat, k ≤ n ∧ v8 = .int .i64 (k : Nat) ∧ v7 = .int .i64 ((nzC f (2 ^ n - 1) k : Nat) : Int) ∧ ∃ vb vc, v6 = .slice vb k vc ∧ Hid (wr.ownsRow w5.heap.size 3 1 (.slice vb k vc) k (ics t k)) ∧ Hid (Below w5.heap.size w5 wr)) (fun _ _ v8 _ => n - (intOf v8).toNat)
    case atStart => exact ⟨0, by omega, rfl, rfl, _, 0, rfl, OT0, KT0⟩
    case round =>
      clear OT0 KT0
      obtain ⟨k, hk, rfl, rfl, vb, vc, rfl, OT, KT⟩ := hrel
      by_cases h : k < n
      · have e1 : decide ((k : Int) < (n : Int)) = true := by simpa using h
        have e1n : decide (k < n) = true := by simpa using h
        have hix := fun W => ixI HLS.out k vm h W
        have hc := (HLS.out.mono KT.out (Nat.le_refl _)).cell k h
        simp only [ic] at hc
        have hr := HFR.out k h
        have hzz := nzC_le f (2 ^ n - 1) k
        have hbit : (2 ^ n - 1).testBit k = true := by rw [all_bit]; simpa using h
        have hng : IntKind.i64.wrap (-f k) = -f k := by rw [IntKind.wrap_i64]; omega
        have HTK : Hid (t k = -f k) := Lib.hid (by rw [HTT.out])
        have HLC := Lib.hid HLS.out
        have HSZ := Lib.hid KT.out.size
        have HBK := Lib.hid OT.out.lt
        by_cases hf : f k = 0
        · have d1 : (f k != 0) = false := by simpa using hf
          have HZ : Hid (nzC f (2 ^ n - 1) (k + 1) = nzC f (2 ^ n - 1) k) := Lib.hid (by simp only [nzC]; rw [if_neg (fun q => q.2 hf)]; rfl)
          clear hf hbit
          go_wp2_with (at_builtin; refine wpList_append_own _ rfl (.tmp 61) (.tmp 67) 22 rfl w5.heap.size 3 i0 (.int .i64 0) 1 8 Tryz.underlying22 hinf hz0 hz1 hz2 rfl (by decide) (.slice vb k vc) k (ics t k) rfl (OT.out.alloc _) ⟨wr.heap.size, 0, none⟩ 1 1 [.int .i64 (-f k)] rfl rfl (new1 wr (.int .i64 (-f k)) 3) (one1 _ rfl) (by unfold maxLen; omega) (by omega) (by simp; have := HSZ.out; omega) ?_; intro v' w6 hown hgrow _; have KT := Lib.hid ((KT.out.alloc KT.out.size _).grown hgrow (by have := HSZ.out; simp; omega) (fun kk e => (HBK.out kk e).1)); have hc := (HLC.out.mono KT.out (Nat.le_refl _)).cell k h; simp only [ic] at hc; rw [← HTK.out, ics_succ] at hown; obtain ⟨vb2, vc2, rfl⟩ := own_shape hown; have OT := Lib.hid hown; clear hown hgrow)
          go_roundw
          case rel => exact ⟨k + 1, by omega, by go_num, by rw [HZ.out], vb2, vc2, rfl, OT, KT⟩
          case measure => simp [intOf]; omega
        · have d1 : (f k != 0) = true := by simpa using hf
          have HZ : Hid (nzC f (2 ^ n - 1) (k + 1) = nzC f (2 ^ n - 1) k + 1) := Lib.hid (by simp only [nzC]; rw [if_pos ⟨hbit, hf⟩])
          clear hf hbit
          obtain ⟨zz, hzq⟩ : ∃ zz, zz = nzC f (2 ^ n - 1) k := ⟨_, rfl⟩
          rw [← hzq] at hzz HZ ⊢
          clear hzq
          have hw : IntKind.i64.wrap ((zz : Int) + 1) = ((zz + 1 : Nat) : Int) := by rw [IntKind.wrap_i64]; omega
          go_wp2_with (at_builtin; refine wpList_append_own _ rfl (.tmp 61) (.tmp 67) 22 rfl w5.heap.size 3 i0 (.int .i64 0) 1 8 Tryz.underlying22 hinf hz0 hz1 hz2 rfl (by decide) (.slice vb k vc) k (ics t k) rfl (OT.out.alloc _) ⟨wr.heap.size, 0, none⟩ 1 1 [.int .i64 (-f k)] rfl rfl (new1 wr (.int .i64 (-f k)) 3) (one1 _ rfl) (by unfold maxLen; omega) (by omega) (by simp; have := HSZ.out; omega) ?_; intro v' w6 hown hgrow _; have KT := Lib.hid ((KT.out.alloc KT.out.size _).grown hgrow (by have := HSZ.out; simp; omega) (fun kk e => (HBK.out kk e).1)); have hc := (HLC.out.mono KT.out (Nat.le_refl _)).cell k h; simp only [ic] at hc; rw [← HTK.out, ics_succ] at hown; obtain ⟨vb2, vc2, rfl⟩ := own_shape hown; have OT := Lib.hid hown; clear hown hgrow)
          go_roundw
          case rel => exact ⟨k + 1, by omega, by go_num, by rw [HZ.out]; first | done | rfl | (simp; done) | (congr 1; omega), vb2, vc2, rfl, OT, KT⟩
          case measure => simp [intOf]; omega
      · obtain rfl : n = k := by omega
        have e1 : decide ((n : Int) < (n : Int)) = false := by simp
        have HT := Lib.hid (ints_of_own OT.out)
        have HI := Lib.hid (HI.out.mono KT.out (Nat.le_refl _))
        have KW := Lib.hid (KW.out.trans (KT.out.mono KW.out.size))
        have hzl := nzC_le f (2 ^ n - 1) n
        obtain ⟨Z, hZ⟩ : ∃ Z, Z = nzC f (2 ^ n - 1) n := ⟨_, rfl⟩
        rw [← hZ] at hzl ⊢
        have HZ := Lib.hid hZ
        have hmk := mkBn n (by omega)
        clear OT KT h hZ HLS
        go_wp2_with (first
        | (go_at_call 6; (with_reducible refine (Groups_any _ n f _ HI.out HB.out).mono ?_); rintro e wn ⟨vg, vh, L, rfl, hG, hL, hM, hb⟩; have HG := Lib.hid hG; have HM := Lib.hid hM; have HI := Lib.hid (HI.out.mono hb (Nat.le_refl _)); have HT := Lib.hid (HT.out.mono hb (Nat.le_refl _)); have KW := Lib.hid (KW.out.trans (hb.mono KW.out.size)); clear hG hM hb)
        | (go_at_call 7; (with_reducible refine (Settle_any _ n f _ HI.out HB.out).mono ?_); rintro e wn ⟨vp, vq, P, rfl, hS, h12, hcnt, hPS, hb⟩; have HS := Lib.hid hS; have HCNT := Lib.hid (hcnt L HG.out); have HP := Lib.hid hPS; have HI := Lib.hid (HI.out.mono hb (Nat.le_refl _)); have HT := Lib.hid (HT.out.mono hb (Nat.le_refl _)); have HM := Lib.hid (HM.out.mono hb (Nat.le_refl _)); have KW := Lib.hid (KW.out.trans (hb.mono KW.out.size)); clear hS hcnt hPS hb)
        | (go_at_call 6; (with_reducible refine (Groups_any _ n t _ HT.out HBT.out).mono ?_); rintro e wn ⟨vd, ve, L2, rfl, hG2, hL2, hM2, hb⟩; obtain rfl := (NEG.out _ HG.out).uniq hG2; have HM2 := Lib.hid hM2; have HI := Lib.hid (HI.out.mono hb (Nat.le_refl _)); have HT := Lib.hid (HT.out.mono hb (Nat.le_refl _)); have HM := Lib.hid (HM.out.mono hb (Nat.le_refl _)); have HP := Lib.hid (HP.out.below hb (Nat.le_refl _)); have KW := Lib.hid (KW.out.trans (hb.mono KW.out.size)); clear hG2 hL2 hM2 hb)
        | (go_at_call 7; (with_reducible refine (Settle_any _ n t _ HT.out HBT.out).mono ?_); rintro e wn ⟨vu, vx, Q, rfl, hS2, h13, hcnt2, hPS2, hb⟩; have HS2 := Lib.hid hS2; have hPQ : Q.length = P.length := (by have h1 := hcnt2 L (NEG.out _ HG.out); have h2 := HCNT.out; rw [NZN.out] at h1; omega); have dPQ : (((P.length : Nat) : Int) != ((Q.length : Nat) : Int)) = false := (by rw [hPQ]; simp); have dPQn : (P.length != Q.length) = false := (by rw [hPQ]; simp); have HP2 := Lib.hid hPS2; have HI := Lib.hid (HI.out.mono hb (Nat.le_refl _)); have HT := Lib.hid (HT.out.mono hb (Nat.le_refl _)); have HM := Lib.hid (HM.out.mono hb (Nat.le_refl _)); have HP := Lib.hid (HP.out.below hb (Nat.le_refl _)); have HM2 := Lib.hid (HM2.out.mono hb (Nat.le_refl _)); have KW := Lib.hid (KW.out.trans (hb.mono KW.out.size)); clear hS2 hcnt2 hPS2 hPQ hb)
        | (go_at_call 11; (with_reducible refine (lists_same _ _ L.length (mlen L) (mF L) _ HM.out HM2.out (by omega) (fun i _ => by have := mem_len (L.getD i 0) 10; unfold mlen; omega)).mono ?_); rintro e wn ⟨rfl, hd⟩; have HI := Lib.hid (HI.out.mono (hd.below _) (Nat.le_refl _)); have HT := Lib.hid (HT.out.mono (hd.below _) (Nat.le_refl _)); have HM := Lib.hid (HM.out.mono (hd.below _) (Nat.le_refl _)); have HP := Lib.hid (HP.out.below (hd.below _) (Nat.le_refl _)); have HP2 := Lib.hid (HP2.out.below (hd.below _) (Nat.le_refl _)); have KW := Lib.hid (KW.out.trans (hd.below _)); clear hd)
        | (go_at_call 12; (with_reducible refine (settled_any _ _ n f P _ HI.out hn1 hn10 HFR.out HP.out h12 HS.out).mono ?_); rintro e wn ⟨rfl, hb⟩; have HI := Lib.hid (HI.out.mono hb (Nat.le_refl _)); have HT := Lib.hid (HT.out.mono hb (Nat.le_refl _)); have HM := Lib.hid (HM.out.mono hb (Nat.le_refl _)); have HP2 := Lib.hid (HP2.out.below hb (Nat.le_refl _)); have KW := Lib.hid (KW.out.trans (hb.mono KW.out.size)); clear hb)
        | (go_at_call 12; (with_reducible refine (settled_any _ _ n t Q _ HT.out hn1 hn10 HFT.out HP2.out h13 HS2.out).mono ?_); rintro e wn ⟨rfl, hb⟩; have HI := Lib.hid (HI.out.mono hb (Nat.le_refl _)); have HM := Lib.hid (HM.out.mono hb (Nat.le_refl _)); have KW := Lib.hid (KW.out.trans (hb.mono KW.out.size)); clear hb)
        | (go_at_call 9; (with_reducible refine (lives_true _).mono ?_); rintro e wn ⟨rfl, hb⟩; have HI := Lib.hid (HI.out.mono hb (Nat.le_refl _)); have HM := Lib.hid (HM.out.mono hb (Nat.le_refl _)); have KW := Lib.hid (KW.out.trans (hb.mono KW.out.size)); clear hb))
        have HCZ : Hid (P.length + bigC n L = Z) := Lib.hid (by rw [HZ.out]; exact HCNT.out)
        obtain ⟨ga, gb, go, gc, gra, grb, gro, grc, hgv, hgs⟩ := HM.out
        cases hgv
        have HGS := Lib.hid hgs
        obtain ⟨ia, ib, io, ic', hiv, his⟩ := HI.out
        cases hiv
        have HIS := Lib.hid his
        have BL0 : Hid ((wn.alloc (.cells (madeCells #[.bool false] n) 4)).rowIs wn.heap.size 4 n (bF (fun i => !(2 ^ n - 1).testBit i))) := Lib.hid ((World.rowIs_made wn (.bool false) n 4).congr (fun i hi => by simp only [bF, all_bit]; rw [decide_eq_true hi]; rfl))
        have KS0 := Lib.hid ((Below.refl wn.heap.size wn).alloc (Nat.le_refl _) (.cells (madeCells #[.bool false] n) 4))
        have GP0 : Hid (GrpP n f (2 ^ n - 1) (L.drop 0) 0) := Lib.hid (by rw [List.drop_zero]; exact HG.out)
        have hbz : (Z : Int) = (Z : Int) - ((bigC n (L.take 0) : Nat) : Int) := by simp [bigC]
        have HPL := Lib.hid h12
        clear hgs his HT HBT HFT NEG NZN HTT hmk HM2 HP HP2 HS2 dPQ dPQn HCNT h12 h13
        go_loopw [7, 18, 19, 20, 21] (fun v7 v18 v19 v20 v21 wr => ∃ (k left : Nat), k ≤ L.length ∧ v18 = .int .i64 (k : Nat) ∧ v7 = .int .i64 ((Z : Int) - ((bigC n (L.take k) : Nat) : Int)) ∧ Hid (GrpP n f left (L.drop k) 0) ∧ Hid (left < 2 ^ n) ∧ Hid (wr.rowIs wn.heap.size 4 n (bF (fun i => !left.testBit i))) ∧ Hid (Below wn.heap.size wn wr)) (fun _ v18 _ _ _ _ => L.length - (intOf v18).toNat)
        case atStart => exact ⟨0, 2 ^ n - 1, by omega, rfl, by rw [← hbz], GP0, Lib.hid (by have := Nat.two_pow_pos n; omega), BL0, KS0⟩
        case round =>
          clear BL0 KS0 GP0 hbz
          obtain ⟨k, left, hk, rfl, rfl, GP, HLF, BL, KS⟩ := hrel
          by_cases h : k < L.length
          · have e3 : decide ((k : Int) < ((L.length : Nat) : Int)) = true := by simpa using h
            have e3n : decide (k < L.length) = true := by simpa using h
            have hst := grp_step GP.out h
            have HBest := Lib.hid hst.1
            have GP2 := Lib.hid hst.2
            have hsb : Sb (L.getD k 0) left := hst.1.1.sub
            have HSB := Lib.hid hsb
            have hg2 : L.getD k 0 < 2 ^ n := Nat.lt_of_le_of_lt hsb.le HLF.out
            have hbs := bigC_step hn10 k h hg2
            have hsum : sumF (fun i => f ((mem (L.getD k 0) 10).getD i 0)) (mlen L k) = 0 := by
              unfold mlen
              rw [mem_ten hg2 hn10, mem_sum, hst.1.1.sum]
            have HSUM := Lib.hid hsum
            have ir := fun W => ixM HGS.out.top k vh h W
            have HFB : Hid (∀ i, i < mlen L k → (mem (L.getD k 0) 10).getD i 0 < n ∧ (L.getD k 0).testBit ((mem (L.getD k 0) 10).getD i 0) = true) := Lib.hid (fun i hi => by
              have := memb_at (n := 10) (L.getD k 0) i hi
              exact ⟨bit_lt hg2 this.2, this.2⟩)
            have hml : mlen L k ≤ 10 := mem_len _ 10
            have hbb : bigC n (L.take k) ≤ k := by have := bigC_le n (L.take k); rw [List.length_take] at this; omega
            have hlz : bigC n (L.take k) ≤ 1023 := by omega
            have BLI : Hid (wr.rowIs wn.heap.size 4 n (bF (seenM left (mem (L.getD k 0) 10) 0))) := Lib.hid (BL.out.congr (fun i hi => by simp [bF, seenM]))
            have HBS := Lib.hid hbs
            clear hst hsb hsum BL hbs
            go_wp2
            go_loopw [19, 20, 21] (fun v19 v20 v21 wz => ∃ j : Nat, j ≤ mlen L k ∧ v20 = .int .i64 (j : Nat) ∧ v19 = .int .i64 (sumF (fun i => f ((mem (L.getD k 0) 10).getD i 0)) j) ∧ Hid (wz.rowIs wn.heap.size 4 n (bF (seenM left (mem (L.getD k 0) 10) j))) ∧ Hid (Below wn.heap.size wn wz)) (fun _ v20 _ _ => mlen L k - (intOf v20).toNat)
            case atStart => exact ⟨0, by omega, rfl, rfl, BLI, KS⟩
            case round =>
              clear BLI KS
              obtain ⟨j, hj, rfl, rfl, BL, KS⟩ := hrel
              have cr := (HGS.out.mono KS.out (Nat.le_refl _)).top.cell k h
              by_cases hj2 : j < mlen L k
              · have e4 : decide ((j : Int) < ((mlen L k : Nat) : Int)) = true := by simpa using hj2
                have e4n : decide (j < mlen L k) = true := by simpa using hj2
                have hnew := seenM_new HSB.out hj2
                obtain ⟨x, hx⟩ : ∃ x, x = (mem (L.getD k 0) 10).getD j 0 := ⟨_, rfl⟩
                have hxb := HFB.out j hj2
                have hmx : mF L k j = ((x : Nat) : Int) := by rw [hx]; rfl
                have ij := fun W => ixI (HGS.out.row k h) j (grc k) hj2 W
                have cj := ((HGS.out.mono KS.out (Nat.le_refl _)).row k h).cell j hj2
                simp only [ic, hmx] at cj
                have hsx : sumF (fun i => f ((mem (L.getD k 0) 10).getD i 0)) (j + 1) = sumF (fun i => f ((mem (L.getD k 0) 10).getD i 0)) j + f x := by simp only [sumF]; rw [hx]
                have hsbd := sumF_bound (fun i => f ((mem (L.getD k 0) 10).getD i 0)) j 10000 (fun i hi => by have := HFR.out _ (HFB.out i (by omega)).1; omega)
                rw [← hx] at hnew hxb
                have hxn := hxb.1
                have dX0 : decide ((x : Int) < 0) = false := by simp
                have dXn : decide ((n : Int) ≤ (x : Int)) = false := by simp; omega
                have dXnn : decide (n ≤ x) = false := by simp; omega
                have hix := fun W => ixB wn.heap.size n n x hxn W
                have cs := BL.out.cell (i := x) hxn
                simp only [bF, hnew] at cs
                have fs := BL.out.frozen x
                have hr := HFR.out x hxn
                have HX2 := Lib.hid hx
                have HSX := Lib.hid hsx
                obtain ⟨S, hS⟩ : ∃ S, S = sumF (fun i => f ((mem (L.getD k 0) 10).getD i 0)) j := ⟨_, rfl⟩
                rw [← hS] at HSX hsbd ⊢
                clear hx hsx hS hnew hxb hmx
                go_upto_region 32 with (fail)
                have BL := Lib.hid ((BL.out.set x (.bool true)).congr (g := bF (seenM left (mem (L.getD k 0) 10) (j + 1))) (fun i hi => by
                  show _ = Value.bool (seenM left (mem (L.getD k 0) 10) (j + 1) i)
                  rw [← seenM_step hj2 i, ← HX2.out]
                  by_cases q : i = x
                  · simp [q]
                  · simp [q, bF]))
                have KS := Lib.hid (KS.out.setCell (show wn.heap.size ≤ (⟨wn.heap.size, x, none⟩ : Addr).block from Nat.le_refl _) (.bool true))
                clear cr cj cs fs hix
                generalize wr.setCell ⟨wn.heap.size, x, none⟩ (.bool true) = wy at BL KS ⊢
                have cr := (HGS.out.mono KS.out (Nat.le_refl _)).top.cell k h
                have cj := ((HGS.out.mono KS.out (Nat.le_refl _)).row k h).cell j hj2
                have hmx : mF L k j = ((x : Nat) : Int) := by rw [HX2.out]; rfl
                simp only [ic, hmx] at cj
                clear hmx
                have il := fun W => ixI HIS.out x vm hxn W
                have cl := (HIS.out.mono KS.out (Nat.le_refl _)).cell x hxn
                simp only [ic] at cl
                have hw : IntKind.i64.wrap (S + f x) = S + f x := by rw [IntKind.wrap_i64]; omega
                go_wp2
                go_roundw
                case rel => exact ⟨j + 1, by omega, by go_num, by rw [HSX.out], BL, KS⟩
                case measure => simp [intOf]; omega
              · obtain rfl : j = mlen L k := by omega
                have e4 : decide (((mlen L k : Nat) : Int) < ((mlen L k : Nat) : Int)) = false := by simp
                have BL2 := Lib.hid (BL.out.congr (g := bF (fun i => !(left - L.getD k 0).testBit i)) (fun i hi => by
                  simp only [bF]
                  rw [show mlen L k = (mem (L.getD k 0) 10).length from rfl, seenM_end HSB.out i (by omega)]))
                have HL2 : Hid (left - L.getD k 0 < 2 ^ n) := Lib.hid (by have := HLF.out; omega)
                rw [HSUM.out]
                by_cases hm : 1 < mlen L k
                · have d1 : decide ((1 : Int) < ((mlen L k : Nat) : Int)) = true := by simp; omega
                  have d1n : decide (1 < mlen L k) = true := by simpa using hm
                  have hst : bigC n (L.take (k + 1)) = bigC n (L.take k) + 1 := by rw [HBS.out, if_pos hm]
                  have HST := Lib.hid hst
                  obtain ⟨zz, hzq⟩ : ∃ zz, zz = bigC n (L.take k) := ⟨_, rfl⟩
                  rw [← hzq] at HST hlz ⊢
                  have hw : IntKind.i64.wrap ((Z : Int) - (zz : Int) - 1) = (Z : Int) - ((zz + 1 : Nat) : Int) := by rw [IntKind.wrap_i64]; omega
                  clear hm hst hzq
                  go_wp2
                  go_roundw
                  case rel => exact ⟨k + 1, left - L.getD k 0, by omega, by go_num, by rw [HST.out]; first | done | rfl | (simp; done) | (congr 1; omega), GP2, HL2, BL2, KS⟩
                  case measure => simp [intOf]; omega
                · have d1 : decide ((1 : Int) < ((mlen L k : Nat) : Int)) = false := by simp; omega
                  have d1n : decide (1 < mlen L k) = false := by simpa using hm
                  have hst : bigC n (L.take (k + 1)) = bigC n (L.take k) := by rw [HBS.out, if_neg hm]; rfl
                  have HST := Lib.hid hst
                  clear hm hst
                  go_wp2
                  go_roundw
                  case rel => exact ⟨k + 1, left - L.getD k 0, by omega, by go_num, by rw [HST.out], GP2, HL2, BL2, KS⟩
                  case measure => simp [intOf]; omega
          · have hke : k = L.length := by omega
            have e3 : decide ((k : Int) < ((L.length : Nat) : Int)) = false := by simp; omega
            have e3n : decide (k < L.length) = false := by simpa using h
            have hl0 : left = 0 := by
              have := GP.out
              rw [hke, List.drop_length] at this
              exact (show 0 = left from this).symm
            have hcz : ((P.length : Nat) : Int) = (Z : Int) - ((bigC n (L.take k) : Nat) : Int) := by have := HCZ.out; rw [hke, List.take_length]; omega
            have dP : (((P.length : Nat) : Int) == (Z : Int) - ((bigC n (L.take k) : Nat) : Int)) = true := by simpa using hcz
            have BT : Hid (wr.rowIs wn.heap.size 4 n (bF (fun _ => true))) := Lib.hid (BL.out.congr (fun i hi => by rw [hl0]; simp [bF]))
            generalize wr = wv at *
            clear wr hke hl0 hcz BL h
            go_wp2
            go_loopw [22] (fun v22 wr => ∃ i : Nat, i ≤ n ∧ v22 = .int .i64 (i : Nat) ∧ wr = wv) (fun v22 _ => n - (intOf v22).toNat)
            case atStart => exact ⟨0, by omega, rfl, rfl⟩
            case round =>
              obtain ⟨i, hi, rfl, hwv⟩ := hrel
              subst hwv
              by_cases h2 : i < n
              · have e5 : decide ((i : Int) < (n : Int)) = true := by simpa using h2
                have e5n : decide (i < n) = true := by simpa using h2
                have hix := fun W => ixB wn.heap.size n n i h2 W
                have cs := BT.out.cell (i := i) h2
                simp only [bF] at cs
                go_wp2
                go_roundw
                case rel => exact ⟨i + 1, by omega, by go_num, by first | rfl | trivial⟩
                case measure => simp [intOf]; omega
              · obtain rfl : n = i := by omega
                have e5 : decide ((n : Int) < (n : Int)) = false := by simp
                go_wp2
                go_ret
                exact ⟨rfl, KW.out.trans (KS.out.mono KW.out.size)⟩
end Go.Proofs.YtcnaagiicpkcpaaGreat
