/- debt.Proves at a matrix of debts and a matrix and prices of its form. -/
import Derived.Test.YtgmopcncbpdniaaQPrv1
import Derived.Test.YtgmopcncbpdniaaQPrvP
import Derived.Test.YtgmopcncbpdniaaQRefQ
set_option linter.unusedVariables false
set_option linter.unusedSimpArgs false
namespace Go.Proofs.Ytgmopcncbpdniaa
open Go.RowKit
attribute [local go_sem ↓] Go.wp_at_zero Go.wp_at_succ

/-- the balances under way -/
structure PvS (w0 w : World) (n C : Nat) (g : Nat → Int) : Prop where
  nc : w.cell? ⟨w0.heap.size, 0, none⟩ = some (.int .i64 (n : Nat))
  bl : w.rowIs C 3 n (ic g)
  below : Below w0.heap.size w0 w
  hC : w0.heap.size < C
theorem PvS.drawn {w0 w w' : World} {n C : Nat} {g : Nat → Int} (h : PvS w0 w n C g) (hd : Drawn w w') : PvS w0 w' n C g :=
  ⟨(drawn_cell hd _).trans h.nc, rowIs_below h.bl (hd.below _) h.bl.lt, h.below.trans (hd.below _), h.hC⟩
theorem PvS.congr {w0 w : World} {n C : Nat} {g g' : Nat → Int} (h : PvS w0 w n C g) (e : ∀ i, i < n → g i = g' i) : PvS w0 w n C g' :=
  ⟨h.nc, h.bl.congr (fun i hi => by simp only [ic]; rw [e i hi]), h.below, h.hC⟩
theorem PvS.set {w0 w : World} {n C : Nat} {g : Nat → Int} (h : PvS w0 w n C g) (k : Nat) (x : Int) : PvS w0 (w.setCell ⟨C, k, none⟩ (.int .i64 x)) n C (setN g k x) :=
  ⟨by rw [cell?_setCell_ne' _ _ _ _ (by intro e; have := h.hC; injection e with e1; omega) rfl rfl]; exact h.nc,
   (h.bl.set k _).congr (fun i hi => by
    by_cases e : i = k
    · subst e; simp [ic, setN]
    · simp [ic, setN, e]),
   h.below.setCell (by have := h.hC; dsimp only; omega) _, h.hC⟩

set_option maxHeartbeats 8000000 in
set_option maxRecDepth 100000 in
theorem dProves_ok (vd vr vp : Value) (n : Nat) (m : Nat → Nat) (d r : Nat → Nat → Int) (p : Nat → Int) (t : Bool) (ht : t = true ↔ PP n d r p) (w : World) (hd : Mat w vd n m d) (hr : Mat w vr n (fun _ => n) r) (hp : Ints w vp n p) (hD : Debts n m d) (hpr : ∀ i, i < n → -1000 ≤ p i ∧ p i ≤ 1000) :
    Calls Try.prog 19 #[vd, vr, vp] w fun e w' => e = .returned (.tuple #[.bool t, .int .i64 0]) ∧ Below w.heap.size w w' := by
  have hmk := run_make_row' (P := Try.prog) 23 3 (.int .i64 0) 8 Try.underlying23 infoI rfl .i64 .i64 n (by have := hD.2.1; omega) (by have := hD.2.1; omega)
  have hb0 := (Below.refl w.heap.size w).alloc (Nat.le_refl _) (.cells #[.int .i64 (n : Nat)] 3)
  have KW := Lib.hid hb0
  have HD := Lib.hid (hd.mono hb0 (Nat.le_refl _))
  have HR := Lib.hid (hr.mono hb0 (Nat.le_refl _))
  have HP := Lib.hid (hp.mono hb0 (Nat.le_refl _))
  have HC : Hid ((w.alloc (.cells #[.int .i64 (n : Nat)] 3)).cell? ⟨w.heap.size, 0, none⟩ = some (.int .i64 (n : Nat))) := Lib.hid (by simp [go_sem])
  have hn8 : n ≤ 8 := hD.2.1
  have hn1 : 1 ≤ n := hD.1
  have HM : Hid (∀ i, i < n → m i ≤ 1048576) := Lib.hid (fun i hi => by rw [(hD.2.2 i hi).1]; omega)
  have HDD : Hid (∀ i j, i < n → j < n → 0 ≤ d i j ∧ d i j ≤ 1000) := Lib.hid (fun i j hi hj => (hD.2.2 i hi).2.2 j hj)
  have HDZ : Hid (∀ i, i < n → d i i = 0) := Lib.hid (fun i hi => (hD.2.2 i hi).2.1)
  have HDB := Lib.hid hD
  have HPR := Lib.hid hpr
  have HT := Lib.hid ht
  have HPR0 : Hid (¬ ∃ i, i < n ∧ (p i < -1000 ∨ 1000 < p i)) := Lib.hid (fun ⟨i, hi, hx⟩ => by have := hpr i hi; omega)
  have H3 : Hid (¬ ∃ i, i < n ∧ (fun _ : Nat => n) i ≠ n) := Lib.hid (fun ⟨i, hi, hx⟩ => hx rfl)
  have HS1 : Hid (Mat w vd n (fun _ => n) d) := Lib.hid (hd.row_len (fun i hi => (hD.2.2 i hi).1))
  have e1 : (((n : Nat) : Int) != ((n : Nat) : Int)) = false := by simp
  obtain ⟨a0, b0, o0, c0, ra0, rb0, ro0, rc0, rfl, s0⟩ := hd
  obtain ⟨a1, b1, o1, c1, ra1, rb1, ro1, rc1, hve, s1⟩ := HS1.out
  cases hve
  obtain ⟨a2, b2, o2, c2, ra2, rb2, ro2, rc2, rfl, s2⟩ := hr
  obtain ⟨a3, b3, o3, c3, rfl, s3⟩ := hp
  have S1 := Lib.hid s1
  have S2 := Lib.hid s2
  have S3 := Lib.hid s3
  clear hD s0 s1 s2 s3 hb0 hpr ht HS1
  go_enter Try.func19, Try.ntmps19
  go_wp2_with (first
    | (go_at_call 20; (with_reducible refine (square_any _ n m d true ⟨fun _ => HDB.out, fun _ => rfl⟩ _ HD.out (by omega) HM.out).mono ?_); rintro e w1 ⟨rfl, hd1⟩; have hc1 := (drawn_cell hd1 ⟨w.heap.size, 0, none⟩).trans HC.out; have HC1 := Lib.hid hc1; have HR := Lib.hid (HR.out.drawn hd1); have HP := Lib.hid (HP.out.drawn hd1); have KW := Lib.hid (KW.out.trans (hd1.below _)); have SZ := Lib.hid (Nat.le_of_eq (show w.heap.size + 1 = w1.heap.size by obtain ⟨kk, rfl⟩ := hd1; simp)); clear hd1)
    | (go_at_call 30; (with_reducible refine (cr_any _ n n _ (fun _ => n) r false ⟨fun e => Bool.noConfusion e, fun h => absurd h H3.out⟩ _ HR.out HC1.out (by omega)).mono ?_); rintro e w2 ⟨rfl, hd2⟩; have hc2 := (drawn_cell hd2 ⟨w.heap.size, 0, none⟩).trans HC1.out; have HC2 := Lib.hid hc2; have HP := Lib.hid (HP.out.drawn hd2); have KW := Lib.hid (KW.out.trans (hd2.below _)); have SZ := Lib.hid (Nat.le_trans SZ.out (Nat.le_of_eq (show w1.heap.size = w2.heap.size by obtain ⟨kk, rfl⟩ := hd2; simp))); clear hd2 hc1)
    | (go_at_call 32; (with_reducible refine (cf_p_any _ n p false ⟨fun e => Bool.noConfusion e, fun h => absurd h HPR0.out⟩ _ HP.out (by omega)).mono ?_); rintro e w3 ⟨rfl, hd3⟩; have hc3 := (drawn_cell hd3 ⟨w.heap.size, 0, none⟩).trans HC2.out; have HC3 := Lib.hid hc3; have KW := Lib.hid (KW.out.trans (hd3.below _)); have SZ := Lib.hid (Nat.le_trans SZ.out (Nat.le_of_eq (show w2.heap.size = w3.heap.size by obtain ⟨kk, rfl⟩ := hd3; simp))); have hlt3 : w.heap.size < w3.heap.size := (by have := SZ.out; omega); have hne3 : ¬ w.heap.size = w3.heap.size := (by omega); clear hd3 hc2))
  have PS : Hid (PvS w (w3.alloc (.cells (madeCells #[.int .i64 0] n) 3)) n w3.heap.size (gP (fun i j => d i j - r i j) n 0 0)) := Lib.hid ⟨by
      have := SZ.out
      rw [((Below.refl w3.heap.size w3).alloc (Nat.le_refl _) _).cell (p := ⟨w.heap.size, 0, none⟩) (by dsimp only; omega)]
      exact HC3.out, World.rowIs_made w3 (.int .i64 0) n 3, KW.out.alloc KW.out.size _, by have := SZ.out; omega⟩
  clear hne3 hlt3
  generalize w3.heap.size = C at PS ⊢
  generalize w3.alloc (.cells (madeCells #[.int .i64 0] n) 3) = w4 at PS ⊢
  clear hc3 HC HC1 HC2 HC3 KW SZ HPR0 H3 HM HD HR HP
  go_loopw [43] (fun v43 wr => ∃ k : Nat, k ≤ n ∧ v43 = .int .i64 (k : Nat) ∧ Hid (∀ i, i < k → ∀ j, j < n → PPc d r p i j) ∧ Hid (PvS w wr n C (gP (fun i j => d i j - r i j) n k 0))) (fun v43 _ => n - (intOf v43).toNat)
  case atStart => exact ⟨0, by omega, rfl, Lib.hid (fun i hi => by omega), PS⟩
  case round =>
    clear PS
    obtain ⟨k, hk, rfl, HG, PS⟩ := hrel
    by_cases h : k < n
    · have f1 : decide ((k : Int) < (n : Int)) = true := by simpa using h
      have hnc := PS.out.nc
      go_wp2
      clear hnc
      go_loopw [47] (fun v47 wr => ∃ l : Nat, l ≤ n ∧ v47 = .int .i64 (l : Nat) ∧ Hid (∀ j, j < l → PPc d r p k j) ∧ Hid (PvS w wr n C (gP (fun i j => d i j - r i j) n k l))) (fun v47 _ => n - (intOf v47).toNat)
      case atStart => exact ⟨0, by omega, rfl, Lib.hid (fun i hi => by omega), PS⟩
      case round =>
        clear PS
        obtain ⟨l, hl, rfl, HL, PS⟩ := hrel
        by_cases h2 : l < n
        · have f2 : decide ((l : Int) < (n : Int)) = true := by simpa using h2
          have KW := Lib.hid PS.out.below
          have ix1 := fun W => ixM S1.out.top k c0 h W
          have ix2 := fun W => ixM S2.out.top k c2 h W
          have x1 := (S1.out.top.mono KW.out (Nat.le_refl _)).cell k h
          have x2 := (S2.out.top.mono KW.out (Nat.le_refl _)).cell k h
          have iy1 := fun W => ixI (S1.out.row k h) l (rc1 k) h2 W
          have iy2 := fun W => ixI (S2.out.row k h) l (rc2 k) h2 W
          have y1 := ((S1.out.row k h).mono KW.out (Nat.le_refl _)).cell l h2
          have y2 := ((S2.out.row k h).mono KW.out (Nat.le_refl _)).cell l h2
          simp only [ic] at y1 y2
          by_cases t1 : r k l < 0
          · have q1 : decide (r k l < 0) = true := by simpa using t1
            obtain rfl : t = false := bool_false HT.out (fun e => by have := (e.1 k h l h2).1; omega)
            clear t1
            go_wp2
            go_quiet (fail)
            go_wp2
            go_ret2
            exact ⟨rfl, KW.out.trans ((Drawn.of _ _).below _)⟩
          have q1 : decide (r k l < 0) = false := by simpa using t1
          by_cases t2 : d k l < r k l
          · have q2 : decide (d k l < r k l) = true := by simpa using t2
            obtain rfl : t = false := bool_false HT.out (fun e => by have := (e.1 k h l h2).2.1; omega)
            clear t1 t2
            go_wp2
            go_quiet (fail)
            go_wp2
            go_ret2
            exact ⟨rfl, KW.out.trans ((Drawn.of _ _).below _)⟩
          have q2 : decide (d k l < r k l) = false := by simpa using t2
          have HXB : Hid (0 ≤ d k l - r k l ∧ d k l - r k l ≤ 1000) := Lib.hid (by have := HDD.out k l h h2; omega)
          have HRG : Hid (0 ≤ r k l ∧ r k l ≤ d k l) := Lib.hid (by omega)
          clear t1 t2
          go_wp2
          go_quiet (fail)
          have PS2 := Lib.hid (PS.out.drawn (Drawn.of wr nq))
          clear PS x1 x2 y1 y2 ix1 ix2 iy1 iy2 KW
          generalize wr.drewN nq = wq at PS2 ⊢
          have RB := Lib.hid (rowIs_sl PS2.out.bl)
          have bx1 := fun W => ixI RB.out k n h W
          have bx2 := fun W => ixI RB.out l n h2 W
          simp only [Nat.zero_add] at bx1 bx2
          have by1 := PS2.out.bl.cell h
          have by2 := PS2.out.bl.cell h2
          have bf1 := PS2.out.bl.frozen k
          have bf2 := PS2.out.bl.frozen l
          simp only [ic] at by1 by2
          have HGB : Hid (∀ v, -72000 ≤ gP (fun i j => d i j - r i j) n k l v ∧ gP (fun i j => d i j - r i j) n k l v ≤ 72000) := Lib.hid (fun v => gP_bound v hn8 hk (by omega)
            (fun i hi j hj => by have h8 := HG.out i hi j hj; have h9 := HDD.out i j (by omega) hj; have := h8.1; have := h8.2.1; omega)
            (fun j hj => by have h8 := HL.out j hj; have h9 := HDD.out k j h (by omega); have := h8.1; have := h8.2.1; omega))
          obtain ⟨x, hx⟩ : ∃ x, x = d k l - r k l := ⟨_, rfl⟩
          obtain ⟨g, hg⟩ : ∃ g, g = gP (fun i j => d i j - r i j) n k l := ⟨_, rfl⟩
          have w0 : IntKind.i64.wrap (d k l - r k l) = x := by rw [IntKind.wrap_i64]; have := HXB.out; omega
          have w1 : IntKind.i64.wrap (g k + x) = g k + x := by rw [IntKind.wrap_i64]; have := HXB.out; have := HGB.out k; rw [← hg] at this; omega
          have HGX : Hid (∀ v, setN (setN g k (g k + x)) l (setN g k (g k + x) l - x) v = gP (fun i j => d i j - r i j) n k (l + 1) v) := Lib.hid (fun v => by
            rw [gP_step, ← hg, hx]; exact eC_stores (fun i j => d i j - r i j) g k l v)
          rw [← hg] at by1 by2
          have PS3 := PS2.out
          rw [← hg] at PS3
          have PS3 := Lib.hid (PS3.set k (g k + x))
          have HXX := Lib.hid hx
          have HGG := Lib.hid hg
          obtain ⟨y, hy⟩ : ∃ y, y = setN g k (g k + x) l := ⟨_, rfl⟩
          have by3 := PS3.out.bl.cell h2
          have bf3 := PS3.out.bl.frozen l
          simp only [ic] at by3
          have w2 : IntKind.i64.wrap (y - x) = y - x := by
            have h5 := HXB.out
            have h6 := HGB.out k
            have h7 := HGB.out l
            rw [← hg] at h6 h7
            have : y = g l ∨ y = g k + x := by
              rw [hy]; unfold setN; split
              · exact .inr rfl
              · exact .inl rfl
            rw [IntKind.wrap_i64]; omega
          rw [← hy] at by3
          have PS4 := PS3.out.set l (setN g k (g k + x) l - x)
          rw [← hy] at PS4
          have PS4 := Lib.hid (PS4.congr (g' := gP (fun i j => d i j - r i j) n k (l + 1)) (fun i _ => by rw [hy]; exact HGX.out i))
          clear hx hg hy PS2
          go_wp2
          generalize World.setCell _ _ _ = wn at PS4 ⊢
          clear by1 by2 by3 bf1 bf2 bf3 bx1 bx2 PS3 RB
          have KW := Lib.hid PS4.out.below
          have ip1 := fun W => ixI S3.out k c3 h W
          have ip2 := fun W => ixI S3.out l c3 h2 W
          have z1 := (S3.out.mono KW.out (Nat.le_refl _)).cell k h
          have z2 := (S3.out.mono KW.out (Nat.le_refl _)).cell l h2
          simp only [ic] at z1 z2
          have p1 := HPR.out k h
          have p2 := HPR.out l h2
          obtain ⟨s, hs⟩ : ∃ s, s = p l - p k := ⟨_, rfl⟩
          have wz : IntKind.i64.wrap (p l - p k) = s := by rw [IntKind.wrap_i64]; omega
          have HS := Lib.hid hs
          clear p1 p2 hs
          go_quiet (fail)
          have PS5 := Lib.hid (PS4.out.drawn (Drawn.of _ nq))
          generalize wn.drewN nq = wn2 at PS5 ⊢
          clear PS4 KW z1 z2 ip1 ip2
          by_cases t4 : 0 < r k l
          · have q4 : decide (0 < r k l) = true := by simpa using t4
            by_cases t5 : s < 1
            · have q5 : decide (s < 1) = true := by simpa using t5
              obtain rfl : t = false := bool_false HT.out (fun e => by
                have := e.1 k h l h2
                have h9 := HS.out
                by_cases hkl : k = l
                · subst hkl; have := HDZ.out k h; have := HRG.out; omega
                · have := (this.2.2 hkl).1 t4; omega)
              clear t4 t5
              go_wp2
              go_ret2
              exact ⟨rfl, PS5.out.below⟩
            have q5 : decide (s < 1) = false := by simpa using t5
            by_cases t6 : r k l < d k l
            · have q6 : decide (r k l < d k l) = true := by simpa using t6
              by_cases t7 : 1 < s
              · have q7 : decide (1 < s) = true := by simpa using t7
                obtain rfl : t = false := bool_false HT.out (fun e => by
                  have := e.1 k h l h2
                  have h9 := HS.out
                  by_cases hkl : k = l
                  · subst hkl; have := HDZ.out k h; have := HRG.out; omega
                  · have := (this.2.2 hkl).2 t6; omega)
                clear t4 t5 t6 t7
                go_wp2
                go_ret2
                exact ⟨rfl, PS5.out.below⟩
              have q7 : decide (1 < s) = false := by simpa using t7
              have HN : Hid (PPc d r p k l) := Lib.hid ⟨HRG.out.1, HRG.out.2, fun _ => by have := HS.out; exact ⟨fun _ => by omega, fun _ => by omega⟩⟩
              clear t4 t5 t6 t7
              go_wp2
              go_roundw
              case rel => exact ⟨l + 1, by omega, by go_num, Lib.hid (ext_lt HL.out HN.out), PS5⟩
              case measure => simp [intOf]; omega
            have q6 : decide (r k l < d k l) = false := by simpa using t6
            have HN : Hid (PPc d r p k l) := Lib.hid ⟨HRG.out.1, HRG.out.2, fun _ => by have := HS.out; exact ⟨fun _ => by omega, fun _ => by omega⟩⟩
            clear t4 t5 t6
            go_wp2
            go_roundw
            case rel => exact ⟨l + 1, by omega, by go_num, Lib.hid (ext_lt HL.out HN.out), PS5⟩
            case measure => simp [intOf]; omega
          have q4 : decide (0 < r k l) = false := by simpa using t4
          by_cases t6 : r k l < d k l
          · have q6 : decide (r k l < d k l) = true := by simpa using t6
            by_cases t7 : 1 < s
            · have q7 : decide (1 < s) = true := by simpa using t7
              obtain rfl : t = false := bool_false HT.out (fun e => by
                have := e.1 k h l h2
                have h9 := HS.out
                by_cases hkl : k = l
                · subst hkl; have := HDZ.out k h; have := HRG.out; omega
                · have := (this.2.2 hkl).2 t6; omega)
              clear t4 t6 t7
              go_wp2
              go_ret2
              exact ⟨rfl, PS5.out.below⟩
            have q7 : decide (1 < s) = false := by simpa using t7
            have HN : Hid (PPc d r p k l) := Lib.hid ⟨HRG.out.1, HRG.out.2, fun _ => by have := HS.out; exact ⟨fun _ => by omega, fun _ => by omega⟩⟩
            clear t4 t6 t7
            go_wp2
            go_roundw
            case rel => exact ⟨l + 1, by omega, by go_num, Lib.hid (ext_lt HL.out HN.out), PS5⟩
            case measure => simp [intOf]; omega
          have q6 : decide (r k l < d k l) = false := by simpa using t6
          have HN : Hid (PPc d r p k l) := Lib.hid ⟨HRG.out.1, HRG.out.2, fun _ => by have := HS.out; exact ⟨fun _ => by omega, fun _ => by omega⟩⟩
          clear t4 t6
          go_wp2
          go_roundw
          case rel => exact ⟨l + 1, by omega, by go_num, Lib.hid (ext_lt HL.out HN.out), PS5⟩
          case measure => simp [intOf]; omega
        · obtain rfl : l = n := by omega
          have f2 : decide ((l : Int) < (l : Int)) = false := by simp
          go_wp2
          go_roundw
          case rel => exact ⟨k + 1, by omega, by go_num, Lib.hid (ext_lt HG.out HL.out), Lib.hid (PS.out.congr (fun i _ => gP_row _ _ _ _))⟩
          case measure => simp [intOf]; omega
    · obtain rfl : k = n := by omega
      have f1 : decide ((k : Int) < (k : Int)) = false := by simp
      have KW := Lib.hid PS.out.below
      have HB : Hid (Ints wr (.slice (some ⟨C, 0, none⟩) k k) k (gP (fun i j => d i j - r i j) k k 0)) := Lib.hid ⟨_, _, _, _, rfl, rowIs_sl PS.out.bl⟩
      have HT2 : Hid ((!t) = true ↔ ∃ i, i < k ∧ (gP (fun i j => d i j - r i j) k k 0 i ≠ 0)) := Lib.hid (by
        have e : (∀ i, i < k → gP (fun i j => d i j - r i j) k k 0 i = 0) ↔ ∀ i, i < k → bal k r i = bal k d i :=
          ⟨fun q i hi => by have := q i hi; rw [gP_balance _ _ _ _ hi] at this; omega, fun q i hi => by rw [gP_balance _ _ _ _ hi, q i hi]; omega⟩
        have e2 : t = true ↔ ∀ i, i < k → gP (fun i j => d i j - r i j) k k 0 i = 0 := ⟨fun q => e.2 (HT.out.1 q).2, fun q => HT.out.2 ⟨HG.out, e.1 q⟩⟩
        cases t
        · simp only [Bool.not_false, true_iff]
          apply Classical.byContradiction
          intro hne
          have : false = true := e2.2 fun i hi => by
            apply Classical.byContradiction
            intro hx
            exact hne ⟨i, hi, hx⟩
          cases this
        · simp only [Bool.not_true, Bool.false_eq_true, false_iff]
          rintro ⟨i, hi, hx⟩
          exact hx (e2.1 rfl i hi))
      go_wp2_with (go_at_call 32; (with_reducible refine (cf_z_any _ k (gP (fun i j => d i j - r i j) k k 0) (!t) HT2.out _ HB.out (by omega)).mono ?_); rintro e w5 ⟨rfl, hd5⟩; have KW := Lib.hid (KW.out.trans (hd5.below _)); clear hd5)
      go_ret2
      exact ⟨by simp, KW.out⟩

end Go.Proofs.Ytgmopcncbpdniaa
