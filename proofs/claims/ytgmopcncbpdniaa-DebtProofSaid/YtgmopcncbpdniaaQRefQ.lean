/- Rest and Proves of the reference. -/
import Derived.Test.YtgmopcncbpdniaaQFun2
import Derived.Test.YtgmopcncbpdniaaQRing
set_option linter.unusedVariables false
set_option linter.unusedSimpArgs false
namespace Go.Proofs.Ytgmopcncbpdniaa
open Go.RowKit

/-- by how much less firm i owes in all, as the reference reckons it -/
def leftF (d r : Nat → Nat → Int) (i j : Nat) : Int := d i j - d j i - r i j + r j i
theorem leftF_sum (d r : Nat → Nat → Int) (i : Nat) : ∀ n, sumF (leftF d r i) n = (sumF (fun j => d i j) n - sumF (fun j => d j i) n) - (sumF (fun j => r i j) n - sumF (fun j => r j i) n) := by
  intro n
  induction n with
  | zero => rfl
  | succ n ih => simp only [sumF]; rw [ih]; unfold leftF; omega
theorem leftF_bal (d r : Nat → Nat → Int) (i n : Nat) : sumF (leftF d r i) n = bal n d i - bal n r i := leftF_sum d r i n

set_option maxHeartbeats 4000000 in
set_option maxRecDepth 100000 in
theorem rest_any (u v : Value) (n : Nat) (d r : Nat → Nat → Int) (t : Bool) (ht : t = true ↔ ∀ i, i < n → bal n r i = bal n d i) (w : World) (hu : Mat w u n (fun _ => n) d) (hv : Mat w v n (fun _ => n) r) (hn : n ≤ 8)
    (hr : ∀ i j, i < n → j < n → 0 ≤ r i j ∧ r i j ≤ d i j ∧ d i j ≤ 1000) :
    Calls Try.prog 10 #[u, v] w fun e w' => e = .returned (.bool t) ∧ Drawn w w' := by
  obtain ⟨a1, b1, o1, c1, ra1, rb1, ro1, rc1, rfl, s1⟩ := hu
  obtain ⟨a2, b2, o2, c2, ra2, rb2, ro2, rc2, rfl, s2⟩ := hv
  have S1 := Lib.hid s1
  have S2 := Lib.hid s2
  have HR := Lib.hid hr
  have HT := Lib.hid ht
  clear s1 s2 hr ht
  go_enter Try.func10, Try.ntmps10
  go_wp2
  go_loopw [5, 6, 7, 8] (fun i _ _ _ wr => ∃ k : Nat, k ≤ n ∧ i = .int .i64 (k : Nat) ∧ Hid (∀ i, i < k → bal n r i = bal n d i) ∧ Hid (Drawn w wr)) (fun i _ _ _ _ => n - (intOf i).toNat)
  case atStart => exact ⟨0, by omega, rfl, Lib.hid (fun i hi => by omega), Lib.hid (Drawn.refl _)⟩
  case round =>
    obtain ⟨k, hk, rfl, HG, hd⟩ := hrel
    by_cases h : k < n
    · have e1 : decide ((k : Int) < (n : Int)) = true := by simpa using h
      go_wp2
      go_loopw [7] (fun j wr => ∃ l : Nat, l ≤ n ∧ j = .int .i64 (l : Nat) ∧ Hid (Drawn w wr)) (fun j _ => n - (intOf j).toNat)
      case atStart => exact ⟨0, by omega, rfl, hd⟩
      case round =>
        clear hd
        obtain ⟨l, hl, rfl, hd⟩ := hrel
        by_cases h2 : l < n
        · have e2 : decide ((l : Int) < (n : Int)) = true := by simpa using h2
          have ix1 := fun W => ixM S1.out.top k c1 h W
          have ix2 := fun W => ixM S2.out.top k c2 h W
          have x1 := (S1.out.top.drawn hd.out).cell k h
          have x2 := (S2.out.top.drawn hd.out).cell k h
          have iy1 := fun W => ixI (S1.out.row k h) l (rc1 k) h2 W
          have iy2 := fun W => ixI (S2.out.row k h) l (rc2 k) h2 W
          have y1 := ((S1.out.row k h).drawn hd.out).cell l h2
          have y2 := ((S2.out.row k h).drawn hd.out).cell l h2
          simp only [ic] at y1 y2
          have q := HR.out k l h h2
          have q1 : decide (r k l < 0) = false := by simp; omega
          have q2 : decide (d k l < r k l) = false := by simp; omega
          clear q
          go_wp2
          go_quiet (fail)
          go_wp2
          go_roundw
          case rel => exact ⟨l + 1, by omega, by go_num, Lib.hid (hd.out.trans (Drawn.of _ _))⟩
          case measure => simp [intOf]; omega
        · obtain rfl : l = n := by omega
          have e2 : decide ((l : Int) < (l : Int)) = false := by simp
          go_wp2
          go_loopw [6, 8] (fun s j wr => ∃ q : Nat, q ≤ l ∧ j = .int .i64 (q : Nat) ∧ s = .int .i64 (sumF (leftF d r k) q) ∧ Hid (Drawn w wr)) (fun _ j _ => l - (intOf j).toNat)
          case atStart => exact ⟨0, by omega, rfl, rfl, hd⟩
          case round =>
            clear hd
            obtain ⟨q, hq, rfl, rfl, hd⟩ := hrel
            by_cases h3 : q < l
            · have e3 : decide ((q : Int) < (l : Int)) = true := by simpa using h3
              have ix1 := fun W => ixM S1.out.top k c1 h W
              have ix2 := fun W => ixM S2.out.top k c2 h W
              have x1 := (S1.out.top.drawn hd.out).cell k h
              have x2 := (S2.out.top.drawn hd.out).cell k h
              have iy1 := fun W => ixI (S1.out.row k h) q (rc1 k) h3 W
              have iy2 := fun W => ixI (S2.out.row k h) q (rc2 k) h3 W
              have y1 := ((S1.out.row k h).drawn hd.out).cell q h3
              have y2 := ((S2.out.row k h).drawn hd.out).cell q h3
              have jx1 := fun W => ixM S1.out.top q c1 h3 W
              have jx2 := fun W => ixM S2.out.top q c2 h3 W
              have z1 := (S1.out.top.drawn hd.out).cell q h3
              have z2 := (S2.out.top.drawn hd.out).cell q h3
              have jy1 := fun W => ixI (S1.out.row q h3) k (rc1 q) h W
              have jy2 := fun W => ixI (S2.out.row q h3) k (rc2 q) h W
              have u1 := ((S1.out.row q h3).drawn hd.out).cell k h
              have u2 := ((S2.out.row q h3).drawn hd.out).cell k h
              simp only [ic] at y1 y2 u1 u2
              have q1 := HR.out k q h h3
              have q2 := HR.out q k h3 h
              have qs := sumF_bound (leftF d r k) q 2000 (fun i hi => by have := HR.out k i h (by omega); have := HR.out i k (by omega) h; unfold leftF; omega)
              have w1 : IntKind.i64.wrap (d k q - d q k) = d k q - d q k := by rw [IntKind.wrap_i64]; omega
              have w2 : IntKind.i64.wrap (d k q - d q k - r k q) = d k q - d q k - r k q := by rw [IntKind.wrap_i64]; omega
              have w3 : IntKind.i64.wrap (d k q - d q k - r k q + r q k) = leftF d r k q := by rw [IntKind.wrap_i64] <;> unfold leftF <;> omega
              have w4 : IntKind.i64.wrap (sumF (leftF d r k) q + leftF d r k q) = sumF (leftF d r k) (q + 1) := by
                have : -2000 ≤ leftF d r k q ∧ leftF d r k q ≤ 2000 := by unfold leftF; omega
                show _ = sumF (leftF d r k) q + leftF d r k q
                rw [IntKind.wrap_i64]; omega
              clear q1 q2 qs
              go_wp2
              go_quiet (fail)
              go_wp2
              go_roundw
              case rel => exact ⟨q + 1, by omega, by go_num, rfl, Lib.hid (hd.out.trans (Drawn.of _ _))⟩
              case measure => simp [intOf]; omega
            · obtain rfl : q = l := by omega
              have e3 : decide ((q : Int) < (q : Int)) = false := by simp
              by_cases h4 : sumF (leftF d r k) q = 0
              · have e4 : (sumF (leftF d r k) q != 0) = false := by simp [h4]
                have H4 : Hid (bal q r k = bal q d k) := Lib.hid (by rw [leftF_bal] at h4; omega)
                clear h4
                go_wp2
                go_roundw
                case rel => exact ⟨k + 1, by omega, by go_num, Lib.hid (ext_lt HG.out H4.out), hd⟩
                case measure => simp [intOf]; omega
              · have e4 : (sumF (leftF d r k) q != 0) = true := by simpa using h4
                obtain rfl : t = false := bool_false HT.out (fun e => h4 (by rw [leftF_bal, e k h]; omega))
                clear h4
                go_wp2
                go_ret
                exact ⟨rfl, hd.out⟩
    · obtain rfl : k = n := by omega
      have e1 : decide ((k : Int) < (k : Int)) = false := by simp
      obtain rfl : t = true := HT.out.2 HG.out
      go_wp2
      go_ret
      exact ⟨rfl, hd.out⟩

end Go.Proofs.Ytgmopcncbpdniaa

/- Proves of the reference. -/
set_option linter.unusedVariables false
set_option linter.unusedSimpArgs false
namespace Go.Proofs.Ytgmopcncbpdniaa
open Go.RowKit

/-- what prices say of one debt -/
def PPc (d r : Nat → Nat → Int) (p : Nat → Int) (i j : Nat) : Prop := 0 ≤ r i j ∧ r i j ≤ d i j ∧ (i ≠ j → (0 < r i j → 1 ≤ p j - p i) ∧ (r i j < d i j → p j - p i ≤ 1))
def PP (n : Nat) (d r : Nat → Nat → Int) (p : Nat → Int) : Prop := (∀ i, i < n → ∀ j, j < n → PPc d r p i j) ∧ ∀ i, i < n → bal n r i = bal n d i

set_option maxHeartbeats 8000000 in
set_option maxRecDepth 100000 in
theorem refProves_any (u v vp : Value) (n : Nat) (d r : Nat → Nat → Int) (p : Nat → Int) (t : Bool) (ht : t = true ↔ PP n d r p) (w : World) (hu : Mat w u n (fun _ => n) d) (hv : Mat w v n (fun _ => n) r) (hp : Ints w vp n p) (hn : n ≤ 8)
    (hr : ∀ i j, i < n → j < n → 0 ≤ d i j ∧ d i j ≤ 1000) (hpr : ∀ i, i < n → -1000 ≤ p i ∧ p i ≤ 1000) :
    Calls Try.prog 17 #[u, v, vp] w fun e w' => e = .returned (.bool t) ∧ Drawn w w' := by
  have HU := Lib.hid hu
  have HV := Lib.hid hv
  obtain ⟨a1, b1, o1, c1, ra1, rb1, ro1, rc1, rfl, s1⟩ := hu
  obtain ⟨a2, b2, o2, c2, ra2, rb2, ro2, rc2, rfl, s2⟩ := hv
  obtain ⟨a3, b3, o3, c3, rfl, s3⟩ := hp
  have S1 := Lib.hid s1
  have S2 := Lib.hid s2
  have S3 := Lib.hid s3
  have HR := Lib.hid hr
  have HPR := Lib.hid hpr
  have HT := Lib.hid ht
  clear s1 s2 s3 hr hpr ht
  go_enter Try.func17, Try.ntmps17
  go_wp2
  go_loopw [7, 8, 9] (fun i _ _ wr => ∃ k : Nat, k ≤ n ∧ i = .int .i64 (k : Nat) ∧ Hid (∀ i, i < k → ∀ j, j < n → PPc d r p i j) ∧ Hid (Drawn w wr)) (fun i _ _ _ => n - (intOf i).toNat)
  case atStart => exact ⟨0, by omega, rfl, Lib.hid (fun i hi => by omega), Lib.hid (Drawn.refl _)⟩
  case round =>
    obtain ⟨k, hk, rfl, HG, hd⟩ := hrel
    by_cases h : k < n
    · have e1 : decide ((k : Int) < (n : Int)) = true := by simpa using h
      go_wp2
      go_loopw [8, 9] (fun j _ wr => ∃ l : Nat, l ≤ n ∧ j = .int .i64 (l : Nat) ∧ Hid (∀ j, j < l → PPc d r p k j) ∧ Hid (Drawn w wr)) (fun j _ _ => n - (intOf j).toNat)
      case atStart => exact ⟨0, by omega, rfl, Lib.hid (fun i hi => by omega), hd⟩
      case round =>
        clear hd
        obtain ⟨l, hl, rfl, HL, hd⟩ := hrel
        by_cases h2 : l < n
        · have e2 : decide ((l : Int) < (n : Int)) = true := by simpa using h2
          have ix1 := fun W => ixM S1.out.top k c1 h W
          have ix2 := fun W => ixM S2.out.top k c2 h W
          have x1 := (S1.out.top.drawn hd.out).cell k h
          have x2 := (S2.out.top.drawn hd.out).cell k h
          have iy1 := fun W => ixI (S1.out.row k h) l (rc1 k) h2 W
          have iy2 := fun W => ixI (S2.out.row k h) l (rc2 k) h2 W
          have y1 := ((S1.out.row k h).drawn hd.out).cell l h2
          have y2 := ((S2.out.row k h).drawn hd.out).cell l h2
          have ip1 := fun W => ixI S3.out k c3 h W
          have ip2 := fun W => ixI S3.out l c3 h2 W
          have z1 := (S3.out.drawn hd.out).cell k h
          have z2 := (S3.out.drawn hd.out).cell l h2
          simp only [ic] at y1 y2 z1 z2
          have q := HR.out k l h h2
          have p1 := HPR.out k h
          have p2 := HPR.out l h2
          obtain ⟨s, hs⟩ : ∃ s, s = p l - p k := ⟨_, rfl⟩
          have wz : IntKind.i64.wrap (p l - p k) = s := by rw [IntKind.wrap_i64]; omega
          have HS := Lib.hid hs
          have HQ := Lib.hid q
          clear p1 p2 q hs
          by_cases t1 : r k l < 0
          · have q1 : decide (r k l < 0) = true := by simpa using t1
            obtain rfl : t = false := bool_false HT.out (fun e => by have := (e.1 k h l h2).1; omega)
            clear t1
            go_wp2
            go_quiet (fail)
            go_wp2
            dsimp only [List.append]
            go_big_quiet (fail)
            go_wp2
            go_ret
            exact ⟨rfl, (hd.out.step _).step _⟩
          have q1 : decide (r k l < 0) = false := by simpa using t1
          by_cases t2 : d k l < r k l
          · have q2 : decide (d k l < r k l) = true := by simpa using t2
            obtain rfl : t = false := bool_false HT.out (fun e => by have := (e.1 k h l h2).2.1; omega)
            clear t1 t2
            go_wp2
            go_quiet (fail)
            go_wp2
            dsimp only [List.append]
            go_big_quiet (fail)
            go_wp2
            go_ret
            exact ⟨rfl, (hd.out.step _).step _⟩
          have q2 : decide (d k l < r k l) = false := by simpa using t2
          by_cases t3 : k = l
          · have q3 : ((k : Int) != (l : Int)) = false := by simp [t3]
            have HN : Hid (PPc d r p k l) := Lib.hid ⟨by omega, by omega, fun e => absurd t3 e⟩
            clear t1 t2 t3
            go_wp2
            go_quiet (fail)
            go_wp2
            dsimp only [List.append]
            go_big_quiet (fail)
            go_wp2
            go_roundw
            case rel => exact ⟨l + 1, by omega, by go_num, Lib.hid (ext_lt HL.out HN.out), Lib.hid (hd.out.step _)⟩
            case measure => simp [intOf]; omega
          have q3 : ((k : Int) != (l : Int)) = true := by simp; omega
          by_cases t4 : 0 < r k l
          · have q4 : decide (0 < r k l) = true := by simpa using t4
            by_cases t5 : s < 1
            · have q5 : decide (s < 1) = true := by simpa using t5
              obtain rfl : t = false := bool_false HT.out (fun e => by have := ((e.1 k h l h2).2.2 t3).1 t4; have := HS.out; omega)
              clear t1 t2 t3 t4 t5
              go_wp2
              go_quiet (fail)
              go_wp2
              dsimp only [List.append]
              go_big_quiet (fail)
              go_wp2
              go_ret
              exact ⟨rfl, (hd.out.step _).step _⟩
            have q5 : decide (s < 1) = false := by simpa using t5
            by_cases t6 : r k l < d k l
            · have q6 : decide (r k l < d k l) = true := by simpa using t6
              by_cases t7 : 1 < s
              · have q7 : decide (1 < s) = true := by simpa using t7
                obtain rfl : t = false := bool_false HT.out (fun e => by have := ((e.1 k h l h2).2.2 t3).2 t6; have := HS.out; omega)
                clear t1 t2 t3 t4 t5 t6 t7
                go_wp2
                go_quiet (fail)
                go_wp2
                dsimp only [List.append]
                go_big_quiet (fail)
                go_wp2
                go_ret
                exact ⟨rfl, (hd.out.step _).step _⟩
              have q7 : decide (1 < s) = false := by simpa using t7
              have HN : Hid (PPc d r p k l) := Lib.hid ⟨by omega, by omega, fun _ => by have := HS.out; exact ⟨fun _ => by omega, fun _ => by omega⟩⟩
              clear t1 t2 t3 t4 t5 t6 t7
              go_wp2
              go_quiet (fail)
              go_wp2
              dsimp only [List.append]
              go_big_quiet (fail)
              go_wp2
              go_roundw
              case rel => exact ⟨l + 1, by omega, by go_num, Lib.hid (ext_lt HL.out HN.out), Lib.hid (hd.out.step _)⟩
              case measure => simp [intOf]; omega
            have q6 : decide (r k l < d k l) = false := by simpa using t6
            have HN : Hid (PPc d r p k l) := Lib.hid ⟨by omega, by omega, fun _ => by have := HS.out; exact ⟨fun _ => by omega, fun _ => by omega⟩⟩
            clear t1 t2 t3 t4 t5 t6
            go_wp2
            go_quiet (fail)
            go_wp2
            dsimp only [List.append]
            go_big_quiet (fail)
            go_wp2
            go_roundw
            case rel => exact ⟨l + 1, by omega, by go_num, Lib.hid (ext_lt HL.out HN.out), Lib.hid (hd.out.step _)⟩
            case measure => simp [intOf]; omega
          have q4 : decide (0 < r k l) = false := by simpa using t4
          by_cases t6 : r k l < d k l
          · have q6 : decide (r k l < d k l) = true := by simpa using t6
            by_cases t7 : 1 < s
            · have q7 : decide (1 < s) = true := by simpa using t7
              obtain rfl : t = false := bool_false HT.out (fun e => by have := ((e.1 k h l h2).2.2 t3).2 t6; have := HS.out; omega)
              clear t1 t2 t3 t4 t6 t7
              go_wp2
              go_quiet (fail)
              go_wp2
              dsimp only [List.append]
              go_big_quiet (fail)
              go_wp2
              go_ret
              exact ⟨rfl, (hd.out.step _).step _⟩
            have q7 : decide (1 < s) = false := by simpa using t7
            have HN : Hid (PPc d r p k l) := Lib.hid ⟨by omega, by omega, fun _ => by have := HS.out; exact ⟨fun _ => by omega, fun _ => by omega⟩⟩
            clear t1 t2 t3 t4 t6 t7
            go_wp2
            go_quiet (fail)
            go_wp2
            dsimp only [List.append]
            go_big_quiet (fail)
            go_wp2
            go_roundw
            case rel => exact ⟨l + 1, by omega, by go_num, Lib.hid (ext_lt HL.out HN.out), Lib.hid (hd.out.step _)⟩
            case measure => simp [intOf]; omega
          have q6 : decide (r k l < d k l) = false := by simpa using t6
          have HN : Hid (PPc d r p k l) := Lib.hid ⟨by omega, by omega, fun _ => by have := HS.out; exact ⟨fun _ => by omega, fun _ => by omega⟩⟩
          clear t1 t2 t3 t4 t6
          go_wp2
          go_quiet (fail)
          go_wp2
          dsimp only [List.append]
          go_big_quiet (fail)
          go_wp2
          go_roundw
          case rel => exact ⟨l + 1, by omega, by go_num, Lib.hid (ext_lt HL.out HN.out), Lib.hid (hd.out.step _)⟩
          case measure => simp [intOf]; omega
        · obtain rfl : l = n := by omega
          have e2 : decide ((l : Int) < (l : Int)) = false := by simp
          go_wp2
          go_roundw
          case rel => exact ⟨k + 1, by omega, by go_num, Lib.hid (ext_lt HG.out HL.out), hd⟩
          case measure => simp [intOf]; omega
    · obtain rfl : k = n := by omega
      have e1 : decide ((k : Int) < (k : Int)) = false := by simp
      have HT2 : Hid (t = true ↔ ∀ i, i < k → bal k r i = bal k d i) := Lib.hid ⟨fun e => (HT.out.1 e).2, fun e => HT.out.2 ⟨HG.out, e⟩⟩
      have HRR : Hid (∀ i j, i < k → j < k → 0 ≤ r i j ∧ r i j ≤ d i j ∧ d i j ≤ 1000) := Lib.hid (fun i j hi hj => ⟨(HG.out i hi j hj).1, (HG.out i hi j hj).2.1, (HR.out i j hi hj).2⟩)
      go_wp2_with (go_at_call 10; (with_reducible refine (rest_any _ _ k d r t HT2.out _ (HU.out.drawn hd.out) (HV.out.drawn hd.out) hn HRR.out).mono ?_); rintro e w1 ⟨rfl, hd2⟩; have HD2 := Lib.hid hd2; clear hd2)
      go_ret
      exact ⟨rfl, hd.out.trans HD2.out⟩

end Go.Proofs.Ytgmopcncbpdniaa
