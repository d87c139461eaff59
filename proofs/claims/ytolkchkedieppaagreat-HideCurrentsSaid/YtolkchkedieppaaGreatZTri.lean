/- triangle of package linear, of matrices whose pivots are above 0. -/
import Derived.Test.YtolkchkedieppaaGreatZTakes
import Derived.Test.YtolkchkedieppaaGreatZRMat
import Derived.Test.YtolkchkedieppaaGreatZRat5
import Derived.Deep.DeepCutAuto
import Derived.Deep.CutBlock
set_option linter.unusedVariables false
set_option linter.unusedSimpArgs false
namespace Go.Proofs.YtolkchkedieppaaGreat
open Go.RowKit
attribute [local go_sem ↓] Go.wp_at_zero Go.wp_at_succ
/-- what stands in triangle: the matrix, the answer's box, the determinant's box -/
structure TriS (w0 w : World) (B g k m : Nat) (rb rc : Nat → Nat) (M : Nat → Nat → Rat) (KM D : Nat) (s : Bool) (a a2 : Option Addr) (n c n2 c2 : Nat) (d : Rat) (Kd : Nat) : Prop where
  mat : RMat w B g k m rb rc M KM
  res : Own4 w w0.heap.size (.bool false) (.slice none 0 0) (.bool false) (.slice none 0 0)
  det : Own4 w D (.bool s) (.slice a n c) (.bool false) (.slice a2 n2 c2)
  dv : RatIs w (.agg #[.bool s, .slice a n c, .bool false, .slice a2 n2 c2]) d Kd
  kw : Below B w0 w
  D1 : w0.heap.size < D
  rl : ∀ i, i < k → rb i < w0.heap.size
  gl0 : g < w0.heap.size
  kB : B ≤ w0.heap.size
section
variable {w0 w w' : World} {B g k m : Nat} {rb rc : Nat → Nat} {M : Nat → Nat → Rat} {KM D : Nat} {s : Bool} {a a2 : Option Addr} {n c n2 c2 : Nat} {d : Rat} {Kd : Nat}
theorem TriS.below (h : TriS w0 w B g k m rb rc M KM D s a a2 n c n2 c2 d Kd) (hb : Below w.heap.size w w') : TriS w0 w' B g k m rb rc M KM D s a a2 n c n2 c2 d Kd :=
  ⟨h.mat.below hb (Nat.le_refl _), h.res.below hb h.res.lt, h.det.below hb h.det.lt, h.dv.mono hb (Nat.le_refl _), h.kw.trans (hb.mono (Nat.le_trans h.kB h.kw.size)), h.D1, h.rl, h.gl0, h.kB⟩
theorem TriS.alloc (h : TriS w0 w B g k m rb rc M KM D s a a2 n c n2 c2 d Kd) (o : Obj) : TriS w0 (w.alloc o) B g k m rb rc M KM D s a a2 n c n2 c2 d Kd := h.below ((Below.refl w.heap.size w).alloc (Nat.le_refl _) o)
theorem TriS.setM {i j : Nat} {x : Rat} {s' : Bool} {a' a2' : Option Addr} {m' c' m2' c2' : Nat} (h : TriS w0 w B g k m rb rc M KM D s a a2 n c n2 c2 d Kd) (hi : i < k) (hj : j < m)
    (hx : RatIs w (.agg #[.bool s', .slice a' m' c', .bool false, .slice a2' m2' c2']) x KM) :
    TriS w0 (st4 w (rb i) (j * 4) (.bool s') (.slice a' m' c') (.bool false) (.slice a2' m2' c2')) B g k m rb rc (updM M i j x) KM D s a a2 n c n2 c2 d Kd := by
  have h1 := h.rl i hi
  have h2 := h.D1
  obtain ⟨s1, a1, m1, c1, b1, m3, c3, hr, _⟩ := (h.mat.row i hi).cell j hj
  refine ⟨h.mat.set hi hj hx, ?_, ?_, h.dv.at4 _ _ _ _ hr, below_st4 h.kw (h.mat.rB i hi) _ _ _ _, h.D1, h.rl, h.gl0, h.kB⟩
  · exact ((((h.res.setCell _ _ _ (by omega)).setCell _ _ _ (by omega)).setCell _ _ _ (by omega)).setCell _ _ _ (by omega))
  · exact ((((h.det.setCell _ _ _ (by omega)).setCell _ _ _ (by omega)).setCell _ _ _ (by omega)).setCell _ _ _ (by omega))
theorem TriS.setD {x : Rat} {Kx : Nat} {s' : Bool} {a' a2' : Option Addr} {m' c' m2' c2' : Nat} (h : TriS w0 w B g k m rb rc M KM D s a a2 n c n2 c2 d Kd)
    (hx : RatIs w (.agg #[.bool s', .slice a' m' c', .bool false, .slice a2' m2' c2']) x Kx) :
    TriS w0 (st4 w D 0 (.bool s') (.slice a' m' c') (.bool false) (.slice a2' m2' c2')) B g k m rb rc M KM D s' a' a2' m' c' m2' c2' x Kx := by
  have h2 := h.D1
  have h3 := h.kB
  have hr : Rd4 w D 0 (.bool s) (.slice a n c) (.bool false) (.slice a2 n2 c2) := ⟨h.det.c0, h.det.c1, h.det.c2, h.det.c3, h.det.lt⟩
  refine ⟨h.mat.far _ _ _ _ hr (by have := h.gl0; omega) (fun i hi => by have := h.rl i hi; omega), ?_, ?_, hx.at4 _ _ _ _ hr, below_st4 h.kw (by omega) _ _ _ _, h.D1, h.rl, h.gl0, h.kB⟩
  · exact ((((h.res.setCell _ _ _ (by omega)).setCell _ _ _ (by omega)).setCell _ _ _ (by omega)).setCell _ _ _ (by omega))
  · exact h.det.anew _ _ _ _
theorem TriS.congr {M' : Nat → Nat → Rat} (h : TriS w0 w B g k m rb rc M KM D s a a2 n c n2 c2 d Kd) (e : ∀ i j, i < k → j < m → M i j = M' i j) : TriS w0 w B g k m rb rc M' KM D s a a2 n c n2 c2 d Kd :=
  ⟨h.mat.congr e, h.res, h.det, h.dv, h.kw, h.D1, h.rl, h.gl0, h.kB⟩
theorem TriS.far {b : Nat} {s' t' : Bool} {a' a2' : Option Addr} {m' c' m2' c2' : Nat} (h : TriS w0 w B g k m rb rc M KM D s a a2 n c n2 c2 d Kd) (u0 u1 u2 u3 : Value)
    (hr : Rd4 w b 0 (.bool s') (.slice a' m' c') (.bool t') (.slice a2' m2' c2')) (h1 : w0.heap.size < b) (h2 : b ≠ D) : TriS w0 (st4 w b 0 u0 u1 u2 u3) B g k m rb rc M KM D s a a2 n c n2 c2 d Kd := by
  have h3 := h.kB
  refine ⟨h.mat.far _ _ _ _ hr (by have := h.gl0; omega) (fun i hi => by have := h.rl i hi; omega), ?_, ?_, h.dv.at4 _ _ _ _ hr, below_st4 h.kw (by omega) _ _ _ _, h.D1, h.rl, h.gl0, h.kB⟩
  · exact ((((h.res.setCell _ _ _ (by omega)).setCell _ _ _ (by omega)).setCell _ _ _ (by omega)).setCell _ _ _ (by omega))
  · exact ((((h.det.setCell _ _ _ h2).setCell _ _ _ h2).setCell _ _ _ h2).setCell _ _ _ h2)
/-- element (i, j), read -/
theorem RMat.at_ {w : World} {B g k cols K : Nat} {rb rc : Nat → Nat} {Q : Nat → Nat → Rat} (h : RMat w B g k cols rb rc Q K) {i j : Nat} (hi : i < k) (hj : j < cols) :
    ∃ s a m c a2 m2 c2, Rd4 w (rb i) (j * 4) (.bool s) (.slice a m c) (.bool false) (.slice a2 m2 c2) ∧ RatIs w (.agg #[.bool s, .slice a m c, .bool false, .slice a2 m2 c2]) (Q i j) K := by
  obtain ⟨s, a, m, c, a2, m2, c2, h1, h2⟩ := (h.row i hi).cell j hj
  exact ⟨s, a, m, c, a2, m2, c2, h1, h2 trivial⟩
end
theorem own4_rd {w : World} {b : Nat} {x y z u : Value} (h : Own4 w b x y z u) : Rd4 w b 0 x y z u := ⟨h.c0, h.c1, h.c2, h.c3, h.lt⟩
theorem sgnZ_no (q : Rat) (h : q ≠ 0) : (sgnZ q.num == 0) = false := by
  have : q.num ≠ 0 := fun e => h (Rat.num_eq_zero.1 e)
  unfold sgnZ
  rw [if_neg this]
  split <;> rfl
theorem sgnZ_yes (q : Rat) (h : q = 0) : (sgnZ q.num == 0) = true := by
  subst h; rfl
theorem num_pos_of {q : Rat} (h : 0 < q) : 0 < q.num := by
  have h1 : 0 ≤ q.num := Rat.num_nonneg.2 (Rat.le_of_lt h)
  have h2 : q.num ≠ 0 := fun e => by rw [Rat.num_eq_zero.1 e] at h; exact absurd h (Rat.lt_irrefl)
  omega
/-- the rows above i eliminated, row i up to column j -/
def midQ (c i j : Nat) (T : Nat → Nat → Rat) (r l : Nat) : Rat := if r < i ∨ (r = i ∧ l < j) then elimQ c T r l else T r l
theorem midQ_start (c : Nat) (T : Nat → Nat → Rat) (r l : Nat) : midQ c (c + 1) 0 T r l = T r l := by
  unfold midQ
  by_cases h : r < c + 1 ∨ (r = c + 1 ∧ l < 0)
  · rw [if_pos h]; unfold elimQ; rw [if_neg (by omega)]
  · rw [if_neg h]
theorem midQ_zero (c i : Nat) (T : Nat → Nat → Rat) (r l : Nat) : midQ c i c T r l = midQ c i 0 T r l := by
  unfold midQ
  by_cases h : r = i ∧ l < c
  · rw [if_pos (.inr h)]
    by_cases h2 : r < i
    · omega
    · rw [if_neg (by omega)]; unfold elimQ; rw [if_neg (by omega)]
  · by_cases h2 : r < i
    · rw [if_pos (.inl h2), if_pos (.inl h2)]
    · rw [if_neg (by omega), if_neg (by omega)]
theorem midQ_next (c i m : Nat) (T : Nat → Nat → Rat) (r l : Nat) (hl : l < m) : midQ c i m T r l = midQ c (i + 1) 0 T r l := by
  unfold midQ
  by_cases h : r < i ∨ (r = i ∧ l < m)
  · rw [if_pos h, if_pos (by omega)]
  · rw [if_neg h, if_neg (by omega)]
theorem midQ_skip (c i m : Nat) (T : Nat → Nat → Rat) (h0 : T i c = 0) (r l : Nat) (hl : l < m) : midQ c i 0 T r l = midQ c (i + 1) 0 T r l := by
  rw [← midQ_next c i m T r l hl]
  unfold midQ
  by_cases h : r = i
  · subst h
    rw [if_neg (by omega), if_pos (.inr ⟨rfl, hl⟩)]
    unfold elimQ
    split
    · rw [h0, Rat.div_def]; grind
    · rfl
  · by_cases h2 : r < i
    · rw [if_pos (.inl h2), if_pos (.inl h2)]
    · rw [if_neg (by omega), if_neg (by omega)]
theorem midQ_end (c k m : Nat) (T : Nat → Nat → Rat) (r l : Nat) (hr : r < k) : midQ c k 0 T r l = elimQ c T r l := by
  unfold midQ; rw [if_pos (.inl hr)]
theorem midQ_set (c i j : Nat) (T : Nat → Nat → Rat) (hci : c < i) (hcj : c ≤ j) (r l : Nat) : updM (midQ c i j T) i j (T i j - T i c / T c c * T c j) r l = midQ c i (j + 1) T r l := by
  unfold updM
  by_cases h : r = i ∧ l = j
  · obtain ⟨rfl, rfl⟩ := h
    rw [if_pos ⟨rfl, rfl⟩]
    unfold midQ
    rw [if_pos (by omega)]
    unfold elimQ
    rw [if_pos ⟨hci, hcj⟩]
  · rw [if_neg h]
    unfold midQ
    by_cases h2 : r < i ∨ (r = i ∧ l < j)
    · rw [if_pos h2, if_pos (by omega)]
    · rw [if_neg h2, if_neg (by omega)]
theorem midQ_row (c i j : Nat) (T : Nat → Nat → Rat) (l : Nat) (hl : j ≤ l) : midQ c i j T i l = T i l := by
  unfold midQ; rw [if_neg (by omega)]
theorem midQ_top (c i j : Nat) (T : Nat → Nat → Rat) (l : Nat) (hci : c < i) : midQ c i j T c l = T c l := by
  unfold midQ; rw [if_pos (.inl hci)]; unfold elimQ; rw [if_neg (by omega)]
set_option maxHeartbeats 8000000 in
set_option maxRecDepth 100000 in
theorem triangle_any (B g gc k m : Nat) (rb rc : Nat → Nat) (T : Nat → Nat → Rat) (KM : Nat) (w : World) (hk : k ≤ 24) (hm : m = k + 1) (hB : B ≤ w.heap.size) (h : RMat w B g k m rb rc T KM)
    (hpiv : ∀ c, c < k → 0 < triQ T c c c) (hsz : ∀ c, c ≤ k → ∀ i j, i < k → j < m → szQ (triQ T c i j) ≤ KM) (hK1 : 2 ≤ KM) (hK2 : KM ≤ 100000000) :
    Calls Tryz.prog 140 #[.slice (some ⟨g, 0, none⟩) k gc] w fun e w' => (∃ r, e = .returned r) ∧ RMat w' B g k m rb rc (triQ T k) KM ∧ Below B w w' := by
  have HM := Lib.hid h
  have HP := Lib.hid hpiv
  have HSZ := Lib.hid hsz
  have hm9 : m ≤ 25 := by omega
  have HMK := Lib.hid hm
  have HB := Lib.hid hB
  clear h hpiv hsz hm hB
  have KW : Hid (Below w.heap.size w (w.alloc (Obj.cells #[.bool false, .slice none 0 0, .bool false, .slice none 0 0] 115))) := boxes1 w _
  have PO : Hid (Own4 (w.alloc (Obj.cells #[.bool false, .slice none 0 0, .bool false, .slice none 0 0] 115)) w.heap.size (.bool false) (.slice none 0 0) (.bool false) (.slice none 0 0)) := own4_new _ _ rfl _ _ _ _ _
  go_enter Tryz.func140, Tryz.ntmps140
  go_wp2_with (first
      | (go_at_call 112; (with_reducible refine (rat_whole 1 (by omega) (by omega) _).mono ?_); rintro e w1 ⟨r1, rfl, hr1, hb1⟩; obtain ⟨s1, a1, n1, c1, b1, m1, d1, rfl, KR⟩ := hr1.shape; clear hr1; have KW := Lib.hid (KW.out.trans (hb1.mono KW.out.size)); have PO := Lib.hid (PO.out.below hb1 PO.out.lt); clear hb1))
  have hwl : w.heap.size < w1.heap.size := PO.out.lt
  have TS : Hid (TriS w (w1.alloc (.cells #[.bool s1, .slice a1 n1 c1, .bool false, .slice b1 m1 d1] 115)) B g k m rb rc (triQ T 0) KM w1.heap.size s1 a1 b1 n1 c1 m1 d1 ((1 : Int) : Rat) (2 + 0 * KM)) := Lib.hid
    ⟨(HM.out.below KW.out (Nat.le_refl _)).alloc _, PO.out.alloc _, own4_new w1 _ rfl _ _ _ _ _, (KR.out.mono (boxes1 w1 _) (Nat.le_refl _)).le (by omega), (KW.out.mono HB.out).alloc (by have := HB.out; omega) _, hwl, fun i hi => (HM.out.row i hi).lt, HM.out.gl, HB.out⟩
  clear KW PO KR HM
  have HD1 := Lib.hid hwl
  clear hwl
  obtain ⟨D, hD⟩ : ∃ D, D = w1.heap.size := ⟨_, rfl⟩
  rw [← hD] at TS HD1
  rw [← hD]
  clear hD
  go_loopw [4, 5, 6, 7, 8, 12] (fun v4 v5 v6 v7 v8 v12 wr => ∃ c : Nat, c ≤ k ∧ v12 = .int .i64 (c : Nat) ∧ ∃ s a n cc a2 n2 c2 d, Hid (TriS w wr B g k m rb rc (triQ T c) KM D s a a2 n cc n2 c2 d (2 + c * KM))) (fun _ _ _ _ _ v12 _ => k - (intOf v12).toNat)
  case atStart => exact ⟨0, by omega, rfl, _, _, _, _, _, _, _, _, TS⟩
  case round =>
    clear TS
    obtain ⟨c, hc, rfl, s, a, n, cc, a2, n2, c2, d, TS⟩ := hrel
    by_cases hck : c < k
    · obtain ⟨wo, rfl⟩ : ∃ wo : World, wo = wr := ⟨_, rfl⟩
      have hcm : c < m := by have := HMK.out; omega
      have HPV := Lib.hid (HP.out c hck)
      have hsg := sgnZ_no (triQ T c c c) (fun e => by have := HPV.out; rw [e] at this; exact absurd this Rat.lt_irrefl)
      obtain ⟨sp, ap, np, cp, ap2, np2, cp2, PP, KP⟩ := TS.out.mat.at_ hck hcm
      have PP := Lib.hid PP
      have KP := Lib.hid KP
      have ixg := fun W => ixL g 0 k gc c hck W
      have ixr := fun W => rowIx (rb c) m (rc c) c hcm W
      simp only [Nat.zero_add] at ixg
      have keepS : Hid (∀ w', Below wo.heap.size wo w' → w'.cell? ⟨g, c, none⟩ = some (.slice (some ⟨rb c, 0, none⟩) m (rc c)) ∧ w'.cell? ⟨rb c, c * 4, none⟩ = some (.bool sp) ∧ w'.cell? ⟨rb c, c * 4 + 1, none⟩ = some (.slice ap np cp) ∧ w'.cell? ⟨rb c, c * 4 + 2, none⟩ = some (.bool false) ∧ w'.cell? ⟨rb c, c * 4 + 3, none⟩ = some (.slice ap2 np2 cp2) ∧
          w'.cell? ⟨D, 0, none⟩ = some (.bool s) ∧ w'.cell? ⟨D, 1, none⟩ = some (.slice a n cc) ∧ w'.cell? ⟨D, 2, none⟩ = some (.bool false) ∧ w'.cell? ⟨D, 3, none⟩ = some (.slice a2 n2 c2) ∧ ∀ o, w'.frozen? ⟨D, o, none⟩ = false) :=
        Lib.hid (fun w' hb => ⟨bel1 hb (TS.out.mat.hdr c hck) TS.out.mat.gl, bel1 hb PP.out.c0 PP.out.lt, bel1 hb PP.out.c1 PP.out.lt, bel1 hb PP.out.c2 PP.out.lt, bel1 hb PP.out.c3 PP.out.lt,
          bel1 hb TS.out.det.c0 TS.out.det.lt, bel1 hb TS.out.det.c1 TS.out.det.lt, bel1 hb TS.out.det.c2 TS.out.det.lt, bel1 hb TS.out.det.c3 TS.out.det.lt, fun o => (hb.frozen (p := ⟨D, o, none⟩) TS.out.det.lt).trans (TS.out.det.f o)⟩)
      obtain ⟨g0, x0, x1, x2, x3, e0, e1, e2, e3, ef⟩ := keepS.out _ (Below.refl _ _)
      go_wp2
      refine wp_loop_rounds 1 ?_
      rw [rounds_succ]
      go_upto_region 13 with (first
        | (go_at_call 189; (with_reducible refine (rat_sign _ (triQ T c c c) KM _ KP.out).mono ?_); rintro e w2 ⟨rfl, hb2⟩; have HV2 := Lib.hid hb2; clear hb2; obtain ⟨g2, y0, y1, y2, y3, z0, z1, z2, z3, zf⟩ := keepS.out _ HV2.out))
      have HV2 := Lib.hid HV2.out.drew
      have KP2 := Lib.hid (KP.out.mono HV2.out (Nat.le_refl _))
      have KD2 := Lib.hid (TS.out.dv.mono HV2.out (Nat.le_refl _))
      have HKC : Hid (KM ≤ 2 + (c + 1) * KM ∧ 2 + c * KM ≤ 2 + (c + 1) * KM ∧ 2 * (2 + (c + 1) * KM) ≤ 549755813888) := Lib.hid (by
        have h1 : (c + 1) * KM ≤ 24 * KM := Nat.mul_le_mul_right _ (by omega)
        have h2 : (c + 1) * KM = c * KM + KM := Nat.succ_mul _ _
        have h3 : 0 ≤ c * KM := Nat.zero_le _
        omega)
      have HSD : Hid (szQ (d * triQ T c c c) ≤ 2 + (c + 1) * KM) := Lib.hid (by
        have h1 := szQ_mul d (triQ T c c c)
        have h2 := TS.out.dv.sz
        have h3 := KP.out.sz
        have h4 : (c + 1) * KM = c * KM + KM := Nat.succ_mul _ _
        omega)
      go_cut [] (fun wx => ∃ s a n cc a2 n2 c2 d, Hid (TriS w wx B g k m rb rc (triQ T c) KM D s a a2 n cc n2 c2 d (2 + (c + 1) * KM)))
      case first =>
        go_region_with (first
          | (go_at_call 69; (with_reducible refine (rat_mul _ _ d (triQ T c c c) (2 + (c + 1) * KM) _ (KD2.out.le HKC.out.2.1) (KP2.out.le HKC.out.1) (by omega) HKC.out.2.2).mono ?_); rintro e w3 ⟨r3, rfl, hr3, hb3⟩; obtain ⟨s3, a3, n3, c3, b3, m3, d3, rfl, K3⟩ := hr3.shape; clear hr3; have HV3 := Lib.hid (HV2.out.trans (hb3.mono HV2.out.size)); clear hb3; obtain ⟨g3, t0, t1, t2, t3, u0, u1, u2, u3, uf⟩ := keepS.out _ HV3.out))
        all_goals
          have TS3 := Lib.hid ((TS.out.below HV3.out).setD (K3.out.tight HSD.out))
          go_wp2_with fail
          go_meet
          case rel => exact ⟨_, _, _, _, _, _, _, _, TS3⟩
      case rest =>
        clear g0 x0 x1 x2 x3 e0 e1 e2 e3 ef g2 y0 y1 y2 y3 z0 z1 z2 z3 zf keepS PP KP TS KP2 KD2 HSD hsg HKC HV2
        obtain ⟨s, a, n, cc, a2, n2, c2, d, TS⟩ := hcut
        have TS := Lib.hid (TS.out.congr (fun r l _ _ => (midQ_start c (triQ T c) r l).symm))
        go_wp2
        obtain ⟨wm, rfl⟩ : ∃ wm : World, wm = wc := ⟨_, rfl⟩
        go_loopw [6, 7, 8] (fun v6 v7 v8 wi => ∃ i : Nat, c + 1 ≤ i ∧ i ≤ k ∧ v6 = .int .i64 (i : Nat) ∧ Hid (TriS w wi B g k m rb rc (midQ c i 0 (triQ T c)) KM D s a a2 n cc n2 c2 d (2 + (c + 1) * KM))) (fun v6 _ _ _ => k - (intOf v6).toNat)
        case atStart => exact ⟨c + 1, by omega, by omega, by go_num, TS⟩
        case round =>
          clear TS
          obtain ⟨i, hi1, hi2, rfl, TS⟩ := hrel
          by_cases hik : i < k
          · obtain ⟨wp, rfl⟩ : ∃ wp : World, wp = wr := ⟨_, rfl⟩
            have hci : c < i := by omega
            obtain ⟨si, ai, ni, ei, ai2, ni2, ei2, PI, KI⟩ := TS.out.mat.at_ hik hcm
            rw [midQ_row c i 0 (triQ T c) c (Nat.zero_le _)] at KI
            obtain ⟨sp, ap, np, cp, ap2, np2, cp2, PP, KP⟩ := TS.out.mat.at_ hck hcm
            rw [midQ_top c i 0 (triQ T c) c hci] at KP
            have PP := Lib.hid PP
            have KP := Lib.hid KP
            have PI := Lib.hid PI
            have KI := Lib.hid KI
            have ixg := fun W => ixL g 0 k gc c hck W
            have ixr := fun W => rowIx (rb c) m (rc c) c hcm W
            have ixgi := fun W => ixL g 0 k gc i hik W
            have ixri := fun W => rowIx (rb i) m (rc i) c hcm W
            simp only [Nat.zero_add] at ixg ixgi
            have keepS : Hid (∀ w', Below wp.heap.size wp w' → w'.cell? ⟨g, c, none⟩ = some (.slice (some ⟨rb c, 0, none⟩) m (rc c)) ∧ w'.cell? ⟨rb c, c * 4, none⟩ = some (.bool sp) ∧ w'.cell? ⟨rb c, c * 4 + 1, none⟩ = some (.slice ap np cp) ∧ w'.cell? ⟨rb c, c * 4 + 2, none⟩ = some (.bool false) ∧ w'.cell? ⟨rb c, c * 4 + 3, none⟩ = some (.slice ap2 np2 cp2) ∧
                w'.cell? ⟨g, i, none⟩ = some (.slice (some ⟨rb i, 0, none⟩) m (rc i)) ∧ w'.cell? ⟨rb i, c * 4, none⟩ = some (.bool si) ∧ w'.cell? ⟨rb i, c * 4 + 1, none⟩ = some (.slice ai ni ei) ∧ w'.cell? ⟨rb i, c * 4 + 2, none⟩ = some (.bool false) ∧ w'.cell? ⟨rb i, c * 4 + 3, none⟩ = some (.slice ai2 ni2 ei2)) :=
              Lib.hid (fun w' hb => ⟨bel1 hb (TS.out.mat.hdr c hck) TS.out.mat.gl, bel1 hb PP.out.c0 PP.out.lt, bel1 hb PP.out.c1 PP.out.lt, bel1 hb PP.out.c2 PP.out.lt, bel1 hb PP.out.c3 PP.out.lt,
                bel1 hb (TS.out.mat.hdr i hik) TS.out.mat.gl, bel1 hb PI.out.c0 PI.out.lt, bel1 hb PI.out.c1 PI.out.lt, bel1 hb PI.out.c2 PI.out.lt, bel1 hb PI.out.c3 PI.out.lt⟩)
            obtain ⟨g0, x0, x1, x2, x3, h0, y0, y1, y2, y3⟩ := keepS.out _ (Below.refl _ _)
            by_cases hz : triQ T c i c = 0
            · have hsg := sgnZ_yes _ hz
              have HZ := Lib.hid hz
              clear hz
              go_wp2_with (first
                | (go_at_call 189; (with_reducible refine (rat_sign _ (triQ T c i c) KM _ KI.out).mono ?_); rintro e w2 ⟨rfl, hb2⟩; have TS2 := Lib.hid ((TS.out.below hb2).congr (fun r l _ hl => midQ_skip c i m (triQ T c) HZ.out r l hl)); clear hb2))
              go_roundw
              case rel => exact ⟨i + 1, by omega, by omega, by go_num, TS2⟩
              case measure => simp [intOf]; omega
            · have hsg := sgnZ_no _ hz
              clear hz
              go_upto_region 18 with (first
                | (go_at_call 189; (with_reducible refine (rat_sign _ (triQ T c i c) KM _ KI.out).mono ?_); rintro e w2 ⟨rfl, hb2⟩; have HV2 := Lib.hid hb2; clear hb2; obtain ⟨g2, p0, p1, p2, p3, h2, q0, q1, q2, q3⟩ := keepS.out _ HV2.out))
              go_cut [7] (fun v7 wx => ∃ Qb sq aq nq cq aq2 nq2 cq2, v7 = .pointer (some ⟨Qb, 0, none⟩) ∧ w.heap.size ≤ Qb ∧ Hid (TriS w wx B g k m rb rc (midQ c i 0 (triQ T c)) KM D s a a2 n cc n2 c2 d (2 + (c + 1) * KM)) ∧
                Hid (Own4 wx Qb (.bool sq) (.slice aq nq cq) (.bool false) (.slice aq2 nq2 cq2)) ∧ Hid (RatIs wx (.agg #[.bool sq, .slice aq nq cq, .bool false, .slice aq2 nq2 cq2]) (triQ T c i c / triQ T c c c) (2 * KM)))
              case first =>
                have HW2 := HV2
                have HV2 := Lib.hid HV2.out.drew
                have KP2 := Lib.hid (KP.out.mono HV2.out (Nat.le_refl _))
                have KI2 := Lib.hid (KI.out.mono HV2.out (Nat.le_refl _))
                have TS2 := Lib.hid (TS.out.below HV2.out)
                have HVA : Hid (Below wp.heap.size wp ((w2.alloc (Obj.cells #[.bool false, .slice none 0 0, .bool false, .slice none 0 0] 115)).drew)) := Lib.hid ((HW2.out.trans ((boxes1 w2 _).mono HW2.out.size)).drew)
                have nb1 : ¬ g = w2.heap.size := by have h1 := TS.out.gl0; have h2 := HW2.out.size; have h3 := TS.out.res.lt; omega
                have nb2 : ¬ rb c = w2.heap.size := by have h1 := TS.out.rl c hck; have h2 := HW2.out.size; have h3 := TS.out.res.lt; omega
                have nb3 : ¬ rb i = w2.heap.size := by have h1 := TS.out.rl i hik; have h2 := HW2.out.size; have h3 := TS.out.res.lt; omega
                have KPA := Lib.hid (KP.out.mono HVA.out (Nat.le_refl _))
                have KIA := Lib.hid (KI.out.mono HVA.out (Nat.le_refl _))
                have TSA := Lib.hid (TS.out.below HVA.out)
                have POA : Hid (Own4 ((w2.alloc (Obj.cells #[.bool false, .slice none 0 0, .bool false, .slice none 0 0] 115)).drew) w2.heap.size (.bool false) (.slice none 0 0) (.bool false) (.slice none 0 0)) := Lib.hid (own4_new w2 _ rfl _ _ _ _ _).drew
                have HQB : Hid (w.heap.size < w2.heap.size ∧ w2.heap.size ≠ D) := Lib.hid (by have h1 := TS2.out.det.lt; have h2 := TS2.out.D1; have h3 : w2.drew.heap.size = w2.heap.size := rfl; omega)
                go_region_held3 (fun w' => w'.cell? ⟨g, c, none⟩ = some (.slice (some ⟨rb c, 0, none⟩) m (rc c)) ∧ w'.cell? ⟨rb c, c * 4, none⟩ = some (.bool sp) ∧ w'.cell? ⟨rb c, c * 4 + 1, none⟩ = some (.slice ap np cp) ∧ w'.cell? ⟨rb c, c * 4 + 2, none⟩ = some (.bool false) ∧ w'.cell? ⟨rb c, c * 4 + 3, none⟩ = some (.slice ap2 np2 cp2) ∧
                w'.cell? ⟨g, i, none⟩ = some (.slice (some ⟨rb i, 0, none⟩) m (rc i)) ∧ w'.cell? ⟨rb i, c * 4, none⟩ = some (.bool si) ∧ w'.cell? ⟨rb i, c * 4 + 1, none⟩ = some (.slice ai ni ei) ∧ w'.cell? ⟨rb i, c * 4 + 2, none⟩ = some (.bool false) ∧ w'.cell? ⟨rb i, c * 4 + 3, none⟩ = some (.slice ai2 ni2 ei2))
                  (first | (with_reducible exact keepS.out _ HW2.out) | (with_reducible exact keepS.out _ HV2.out) | (with_reducible exact keepS.out _ HVA.out) | (with_reducible exact keepS.out _ HV3.out) | (with_reducible exact keepS.out _ HV4.out) | (with_reducible exact keepS.out _ (below_set4 HV3.out HB3.out _ _ _ _)) | (with_reducible exact keepS.out _ (HV5.out _)))
                  (first
                  | (go_at_call 72; (with_reducible refine (rat_div _ _ (triQ T c i c) (triQ T c c c) KM _ KI2.out KP2.out (num_pos_of HPV.out) (by omega) (by omega)).mono ?_); rintro e w3 ⟨r3, rfl, hr3, hb3⟩; obtain ⟨s3, a3, n3, c3, b3, m3, d3, rfl, K3⟩ := hr3.shape; clear hr3; have HV3 := Lib.hid (HV2.out.trans (hb3.mono HV2.out.size)); have HV4 := Lib.hid (HV3.out.trans ((boxes1 w3 (Obj.cells #[.bool false, .slice none 0 0, .bool false, .slice none 0 0] 115)).mono HV3.out.size)); have HV5 := Lib.hid (fun o => HV3.out.trans ((boxes1 w3 o).mono HV3.out.size)); have TS3 := Lib.hid (TS2.out.below hb3); clear hb3)
                  | (go_at_call 72; (with_reducible refine (rat_div _ _ (triQ T c i c) (triQ T c c c) KM _ KIA.out KPA.out (num_pos_of HPV.out) (by omega) (by omega)).mono ?_); rintro e w3 ⟨r3, rfl, hr3, hb3⟩; obtain ⟨s3, a3, n3, c3, b3, m3, d3, rfl, K3⟩ := hr3.shape; clear hr3; have HV3 := Lib.hid (HVA.out.trans (hb3.mono HVA.out.size)); have HB3 : Hid (wp.heap.size ≤ w2.heap.size) := Lib.hid HW2.out.size; have TS3 := Lib.hid (TSA.out.below hb3); have PO3 := Lib.hid (POA.out.below hb3 POA.out.lt); clear hb3; obtain ⟨z0, z1, z2, z3, zf, zl⟩ := PO3.out))
                all_goals
                  go_wp2_with fail
                  go_meet
                  case rel =>
                    first
                    | (have hpo := own4_rd PO3.out
                       have R1 := TS3.out.far (.bool s3) (.slice a3 n3 c3) (.bool false) (.slice b3 m3 d3) hpo HQB.out.1 HQB.out.2
                       have R2 := PO3.out.anew (.bool s3) (.slice a3 n3 c3) (.bool false) (.slice b3 m3 d3)
                       have R3 := K3.out.at4 (o := 0) (.bool s3) (.slice a3 n3 c3) (.bool false) (.slice b3 m3 d3) hpo
                       exact ⟨w2.heap.size, s3, a3, n3, c3, b3, m3, d3, rfl, Nat.le_of_lt HQB.out.1, Lib.hid R1, Lib.hid R2, Lib.hid R3⟩)
                    | exact ⟨_, _, _, _, _, _, _, _, rfl, Nat.le_of_lt (Nat.lt_trans TS3.out.D1 TS3.out.det.lt), Lib.hid (TS3.out.alloc _), Lib.hid (own4_new w3 _ rfl _ _ _ _ _), Lib.hid (K3.out.mono (boxes1 w3 _) (Nat.le_refl _))⟩
              case rest =>
                clear g0 x0 x1 x2 x3 h0 y0 y1 y2 y3 keepS PP KP PI KI TS ixr ixri hsg HV2 g2 p0 p1 p2 p3 h2 q0 q1 q2 q3
                obtain ⟨Qb, sq, aq, nq, cq, aq2, nq2, cq2, rfl, hQb, TS, OQ, KQ⟩ := hcut
                have TS := Lib.hid (TS.out.congr (fun r l _ _ => (midQ_zero c i (triQ T c) r l).symm))
                go_wp2
                obtain ⟨wn, rfl⟩ : ∃ wn : World, wn = wc := ⟨_, rfl⟩
                go_loopw [8] (fun v8 wj => ∃ j : Nat, c ≤ j ∧ j ≤ m ∧ v8 = .int .i64 (j : Nat) ∧ Hid (TriS w wj B g k m rb rc (midQ c i j (triQ T c)) KM D s a a2 n cc n2 c2 d (2 + (c + 1) * KM)) ∧
                  Hid (Own4 wj Qb (.bool sq) (.slice aq nq cq) (.bool false) (.slice aq2 nq2 cq2)) ∧ Hid (RatIs wj (.agg #[.bool sq, .slice aq nq cq, .bool false, .slice aq2 nq2 cq2]) (triQ T c i c / triQ T c c c) (2 * KM))) (fun v8 _ => m - (intOf v8).toNat)
                case atStart => exact ⟨c, by omega, by omega, rfl, TS, OQ, KQ⟩
                case round =>
                  clear TS OQ KQ
                  obtain ⟨j, hj1, hj2, rfl, TS, OQ, KQ⟩ := hrel
                  have gi0 := TS.out.mat.hdr i hik
                  by_cases hjm : j < m
                  · obtain ⟨wq, rfl⟩ : ∃ wq : World, wq = wr := ⟨_, rfl⟩
                    obtain ⟨si, ai, ni, ei, ai2, ni2, ei2, PI, KI⟩ := TS.out.mat.at_ hik hjm
                    rw [midQ_row c i j (triQ T c) j (Nat.le_refl _)] at KI
                    obtain ⟨sp, ap, np, cp, ap2, np2, cp2, PP, KP⟩ := TS.out.mat.at_ hck hjm
                    rw [midQ_top c i j (triQ T c) j hci] at KP
                    have PP := Lib.hid PP
                    have PI := Lib.hid PI
                    have HRF := Lib.hid (TS.out.mat.row i hik).f
                    have ixr := fun W => rowIx (rb c) m (rc c) j hjm W
                    have ixri := fun W => rowIx (rb i) m (rc i) j hjm W
                    have HSX : Hid (szQ (triQ T c i j - triQ T c i c / triQ T c c c * triQ T c c j) ≤ KM) := Lib.hid (by
                      have h1 := HSZ.out (c + 1) (by omega) i j hik hjm
                      simp only [triQ, elimQ] at h1
                      rw [if_pos ⟨hci, hj1⟩] at h1
                      exact h1)
                    have HRQ : Hid (rb i ≠ Qb) := Lib.hid (by have := TS.out.rl i hik; omega)
                    have HRC : Hid (rb i ≠ rb c ∧ rb i ≠ g) := Lib.hid ⟨TS.out.mat.apart i c hik hck (by omega), TS.out.mat.ne i hik⟩
                    have keepS : Hid (∀ w', Below wq.heap.size wq w' → w'.cell? ⟨g, c, none⟩ = some (.slice (some ⟨rb c, 0, none⟩) m (rc c)) ∧ w'.cell? ⟨rb c, j * 4, none⟩ = some (.bool sp) ∧ w'.cell? ⟨rb c, j * 4 + 1, none⟩ = some (.slice ap np cp) ∧ w'.cell? ⟨rb c, j * 4 + 2, none⟩ = some (.bool false) ∧ w'.cell? ⟨rb c, j * 4 + 3, none⟩ = some (.slice ap2 np2 cp2) ∧
                      w'.cell? ⟨g, i, none⟩ = some (.slice (some ⟨rb i, 0, none⟩) m (rc i)) ∧ w'.cell? ⟨Qb, 0, none⟩ = some (.bool sq) ∧ w'.cell? ⟨Qb, 1, none⟩ = some (.slice aq nq cq) ∧ w'.cell? ⟨Qb, 2, none⟩ = some (.bool false) ∧ w'.cell? ⟨Qb, 3, none⟩ = some (.slice aq2 nq2 cq2)) :=
                      Lib.hid (fun w' hb => ⟨bel1 hb (TS.out.mat.hdr c hck) TS.out.mat.gl, bel1 hb PP.out.c0 PP.out.lt, bel1 hb PP.out.c1 PP.out.lt, bel1 hb PP.out.c2 PP.out.lt, bel1 hb PP.out.c3 PP.out.lt,
                        bel1 hb (TS.out.mat.hdr i hik) TS.out.mat.gl, bel1 hb OQ.out.c0 OQ.out.lt, bel1 hb OQ.out.c1 OQ.out.lt, bel1 hb OQ.out.c2 OQ.out.lt, bel1 hb OQ.out.c3 OQ.out.lt⟩)
                    have keepT : Hid (∀ W u0 u1 u2 u3, Below wq.heap.size wq W → ∀ w', w' = st4 W (rb i) (j * 4) u0 u1 u2 u3 → w'.cell? ⟨g, c, none⟩ = some (.slice (some ⟨rb c, 0, none⟩) m (rc c)) ∧ w'.cell? ⟨rb c, j * 4, none⟩ = some (.bool sp) ∧ w'.cell? ⟨rb c, j * 4 + 1, none⟩ = some (.slice ap np cp) ∧ w'.cell? ⟨rb c, j * 4 + 2, none⟩ = some (.bool false) ∧ w'.cell? ⟨rb c, j * 4 + 3, none⟩ = some (.slice ap2 np2 cp2) ∧
                      w'.cell? ⟨g, i, none⟩ = some (.slice (some ⟨rb i, 0, none⟩) m (rc i)) ∧ w'.cell? ⟨Qb, 0, none⟩ = some (.bool sq) ∧ w'.cell? ⟨Qb, 1, none⟩ = some (.slice aq nq cq) ∧ w'.cell? ⟨Qb, 2, none⟩ = some (.bool false) ∧ w'.cell? ⟨Qb, 3, none⟩ = some (.slice aq2 nq2 cq2)) :=
                      Lib.hid (fun W u0 u1 u2 u3 hb w' e => by
                        subst e
                        obtain ⟨f0, f1, f2, f3, f4, f5, f6, f7, f8, f9⟩ := keepS.out W hb
                        exact ⟨(far4 _ _ _ _ HRC.out.2).trans f0, (far4 _ _ _ _ HRC.out.1).trans f1, (far4 _ _ _ _ HRC.out.1).trans f2, (far4 _ _ _ _ HRC.out.1).trans f3, (far4 _ _ _ _ HRC.out.1).trans f4,
                          (far4 _ _ _ _ HRC.out.2).trans f5, (far4 _ _ _ _ HRQ.out).trans f6, (far4 _ _ _ _ HRQ.out).trans f7, (far4 _ _ _ _ HRQ.out).trans f8, (far4 _ _ _ _ HRQ.out).trans f9⟩)
                    have keepX : Hid (∀ w', Below wq.heap.size wq w' → w'.cell? ⟨rb i, j * 4, none⟩ = some (.bool si) ∧ w'.cell? ⟨rb i, j * 4 + 1, none⟩ = some (.slice ai ni ei) ∧ w'.cell? ⟨rb i, j * 4 + 2, none⟩ = some (.bool false) ∧ w'.cell? ⟨rb i, j * 4 + 3, none⟩ = some (.slice ai2 ni2 ei2)) :=
                      Lib.hid (fun w' hb => ⟨bel1 hb PI.out.c0 PI.out.lt, bel1 hb PI.out.c1 PI.out.lt, bel1 hb PI.out.c2 PI.out.lt, bel1 hb PI.out.c3 PI.out.lt⟩)
                    go_upto_region 22 with (fail)
                    have HV0 := Lib.hid (Below.refl wq.heap.size wq)
                    have HV1 := Lib.hid (Below.refl wq.heap.size wq).drew
                    have KQ1 := Lib.hid (KQ.out.mono HV1.out (Nat.le_refl _))
                    have KP1 := Lib.hid (KP.mono HV1.out (Nat.le_refl _))
                    have KI1 := Lib.hid (KI.mono HV1.out (Nat.le_refl _))
                    have TS1 := Lib.hid (TS.out.below HV1.out)
                    clear KP KI gi0
                    obtain ⟨xa0, xa1, xa2, xa3⟩ := keepX.out _ HV0.out
--BEGIN22
                    refine wp_region_held_drew (S := fun w' => w'.cell? ⟨g, c, none⟩ = some (.slice (some ⟨rb c, 0, none⟩) m (rc c)) ∧ w'.cell? ⟨rb c, j * 4, none⟩ = some (.bool sp) ∧ w'.cell? ⟨rb c, j * 4 + 1, none⟩ = some (.slice ap np cp) ∧ w'.cell? ⟨rb c, j * 4 + 2, none⟩ = some (.bool false) ∧ w'.cell? ⟨rb c, j * 4 + 3, none⟩ = some (.slice ap2 np2 cp2) ∧
                      w'.cell? ⟨g, i, none⟩ = some (.slice (some ⟨rb i, 0, none⟩) m (rc i)) ∧ w'.cell? ⟨Qb, 0, none⟩ = some (.bool sq) ∧ w'.cell? ⟨Qb, 1, none⟩ = some (.slice aq nq cq) ∧ w'.cell? ⟨Qb, 2, none⟩ = some (.bool false) ∧ w'.cell? ⟨Qb, 3, none⟩ = some (.slice aq2 nq2 cq2)) (by kernel_rfl) (keepS.out _ HV1.out) (fun hHeld => ?_)
                    refine wtk_begin [0, 1, 2, 3, 4, 5, 6, 7, 8, 9, 10, 12, 13, 14, 15, 16, 17, 18, 19] ?_
                    iterate 19 (refine wtk (v := ?_) rfl (by kernel_rfl) (fun _ _ _ h => h) (by kernel_rfl) ?_ (by assumption) ?_; rotate_left; (focus intro w0 hSw; (try dsimp only at hSw); go_simp; all_goals (with_reducible rfl)); simp only [Act.put, List.setIfInBounds_toArray, List.set_cons_zero, List.set_cons_succ])
                    refine wtk_end ?_
                    refine wpAnyH_ready (rs := [11, 20]) (by kernel_rfl) (by simp) ?_
                    refine AllReadyH.cons rfl (fun K hK => ?_) (AllReadyH.cons rfl (fun K hK => ?_) AllReadyH.nil)
                    ·
                      go_simp
                      refine hK.out _ _ ?_ (fun hHeld => ?_)
                      · (try dsimp only); exact keepS.out _ HV1.out
                      clear hK K
                      (try simp only [Act.put, List.setIfInBounds_toArray, List.set_cons_zero, List.set_cons_succ])
                      refine wpAnyH_ready (rs := [20]) (by kernel_rfl) (by simp) ?_
                      refine AllReadyH.cons rfl (fun K hK => ?_) AllReadyH.nil
                      go_simp
                      (go_at_call 69; (with_reducible refine (rat_mul _ _ (triQ T c i c / triQ T c c c) (triQ T c c j) (2 * KM) _ KQ1.out (KP1.out.le (by omega)) (by omega) (by omega)).mono ?_); rintro e w3 ⟨r3, rfl, hr3, hb3⟩; obtain ⟨s3, a3, n3, c3, b3, m3, d3, rfl, K3⟩ := hr3.shape; clear hr3; have HV3 := Lib.hid (HV1.out.trans (hb3.mono HV1.out.size)); have KI3 := Lib.hid (KI1.out.mono hb3 (Nat.le_refl _)); clear hb3 xa0 xa1 xa2 xa3; obtain ⟨xb0, xb1, xb2, xb3⟩ := keepX.out _ HV3.out)
                      go_wp2_with fail
                      refine hK.out _ _ ?_ (fun hHeld => ?_)
                      · (try dsimp only); exact keepS.out _ HV3.out
                      clear hK K
                      (try simp only [Act.put, List.setIfInBounds_toArray, List.set_cons_zero, List.set_cons_succ])
                      refine wpAnyH_ready (rs := [21]) (by kernel_rfl) (by simp) ?_
                      refine AllReadyH.cons rfl (fun K hK => ?_) AllReadyH.nil
                      go_simp
                      (go_at_call 64; (with_reducible refine (rat_sub _ _ (triQ T c i j) (triQ T c i c / triQ T c c c * triQ T c c j) (2 * (2 * KM)) _ (KI3.out.le (by omega)) K3.out (by omega) (by omega)).mono ?_); rintro e w4 ⟨r4, rfl, hr4, hb4⟩; obtain ⟨s4, a4, n4, c4, b4, m4, d4, rfl, K4⟩ := hr4.shape; clear hr4; have HV4 := Lib.hid (HV3.out.trans (hb4.mono HV3.out.size)); clear hb4 xb0 xb1 xb2 xb3; have zf := fun o => (HV4.out.frozen (p := ⟨rb i, o, none⟩) PI.out.lt).trans (HRF.out o); obtain ⟨xc0, xc1, xc2, xc3⟩ := keepX.out _ HV4.out)
                      go_wp2_with fail
                      refine hK.out _ _ ?_ (fun hHeld => ?_)
                      · (try dsimp only); exact keepS.out _ HV4.out
                      clear hK K
                      (try simp only [Act.put, List.setIfInBounds_toArray, List.set_cons_zero, List.set_cons_succ])
                      refine wtk_begin [22] ?_
                      (refine wtk (v := ?_) rfl (by kernel_rfl) (fun _ _ _ h => h) (by kernel_rfl) ?_ (by assumption) ?_; rotate_left; (focus intro w0 hSw; (try dsimp only at hSw); go_simp; all_goals (with_reducible rfl)); simp only [Act.put, List.setIfInBounds_toArray, List.set_cons_zero, List.set_cons_succ])
                      refine wtk_end ?_
                      refine wpAnyH_ready (rs := [23]) (by kernel_rfl) (by simp) ?_
                      refine AllReadyH.cons rfl (fun K hK => ?_) AllReadyH.nil
                      go_simp
                      refine hK.out _ _ ?_ (fun hHeld => ?_)
                      · (try dsimp only); exact keepT.out _ _ _ _ _ HV4.out _ rfl
                      clear hK K
                      (try simp only [Act.put, List.setIfInBounds_toArray, List.set_cons_zero, List.set_cons_succ])
                      refine wpAnyH_done (by kernel_rfl) ?_ _
                      clear xc0 xc1 xc2 xc3 zf ixr ixri
                      have TS4 := Lib.hid (((TS.out.below HV4.out).setM hik hjm (K4.out.tight HSX.out)).congr (fun r l _ _ => midQ_set c i j (triQ T c) hci hj1 r l))
                      have OQ4 := Lib.hid ((OQ.out.below HV4.out OQ.out.lt))
                      have RI4 := Lib.hid (PI.out.below HV4.out PI.out.lt)
                      have OQ5 := Lib.hid (((((OQ4.out.setCell (rb i) (j * 4) (.bool s4) HRQ.out).setCell (rb i) (j * 4 + 1) (.slice a4 n4 c4) HRQ.out).setCell (rb i) (j * 4 + 2) (.bool false) HRQ.out).setCell (rb i) (j * 4 + 3) (.slice b4 m4 d4) HRQ.out))
                      have KQ5 := Lib.hid ((KQ.out.mono HV4.out (Nat.le_refl _)).at4 (.bool s4) (.slice a4 n4 c4) (.bool false) (.slice b4 m4 d4) RI4.out)
                      clear TS OQ KQ PI PP keepS keepT keepX HV0 HV1 HV3 HV4 K3 K4 KI1 KP1 KQ1 TS1 OQ4 RI4 hHeld
                      go_wp2
                      go_roundw
                      case rel => exact ⟨j + 1, by omega, by omega, by go_num, TS4, OQ5, KQ5⟩
                      case measure => simp [intOf]; omega
                    ·
                      go_simp
                      (go_at_call 69; (with_reducible refine (rat_mul _ _ (triQ T c i c / triQ T c c c) (triQ T c c j) (2 * KM) _ KQ1.out (KP1.out.le (by omega)) (by omega) (by omega)).mono ?_); rintro e w3 ⟨r3, rfl, hr3, hb3⟩; obtain ⟨s3, a3, n3, c3, b3, m3, d3, rfl, K3⟩ := hr3.shape; clear hr3; have HV3 := Lib.hid (HV1.out.trans (hb3.mono HV1.out.size)); have KI3 := Lib.hid (KI1.out.mono hb3 (Nat.le_refl _)); clear hb3 xa0 xa1 xa2 xa3; obtain ⟨xb0, xb1, xb2, xb3⟩ := keepX.out _ HV3.out)
                      go_wp2_with fail
                      refine hK.out _ _ ?_ (fun hHeld => ?_)
                      · (try dsimp only); exact keepS.out _ HV3.out
                      clear hK K
                      (try simp only [Act.put, List.setIfInBounds_toArray, List.set_cons_zero, List.set_cons_succ])
                      refine wpAnyH_ready (rs := [11]) (by kernel_rfl) (by simp) ?_
                      refine AllReadyH.cons rfl (fun K hK => ?_) AllReadyH.nil
                      go_simp
                      refine hK.out _ _ ?_ (fun hHeld => ?_)
                      · (try dsimp only); exact keepS.out _ HV3.out
                      clear hK K
                      (try simp only [Act.put, List.setIfInBounds_toArray, List.set_cons_zero, List.set_cons_succ])
                      refine wpAnyH_ready (rs := [21]) (by kernel_rfl) (by simp) ?_
                      refine AllReadyH.cons rfl (fun K hK => ?_) AllReadyH.nil
                      go_simp
                      (go_at_call 64; (with_reducible refine (rat_sub _ _ (triQ T c i j) (triQ T c i c / triQ T c c c * triQ T c c j) (2 * (2 * KM)) _ (KI3.out.le (by omega)) K3.out (by omega) (by omega)).mono ?_); rintro e w4 ⟨r4, rfl, hr4, hb4⟩; obtain ⟨s4, a4, n4, c4, b4, m4, d4, rfl, K4⟩ := hr4.shape; clear hr4; have HV4 := Lib.hid (HV3.out.trans (hb4.mono HV3.out.size)); clear hb4 xb0 xb1 xb2 xb3; have zf := fun o => (HV4.out.frozen (p := ⟨rb i, o, none⟩) PI.out.lt).trans (HRF.out o); obtain ⟨xc0, xc1, xc2, xc3⟩ := keepX.out _ HV4.out)
                      go_wp2_with fail
                      refine hK.out _ _ ?_ (fun hHeld => ?_)
                      · (try dsimp only); exact keepS.out _ HV4.out
                      clear hK K
                      (try simp only [Act.put, List.setIfInBounds_toArray, List.set_cons_zero, List.set_cons_succ])
                      refine wtk_begin [22] ?_
                      (refine wtk (v := ?_) rfl (by kernel_rfl) (fun _ _ _ h => h) (by kernel_rfl) ?_ (by assumption) ?_; rotate_left; (focus intro w0 hSw; (try dsimp only at hSw); go_simp; all_goals (with_reducible rfl)); simp only [Act.put, List.setIfInBounds_toArray, List.set_cons_zero, List.set_cons_succ])
                      refine wtk_end ?_
                      refine wpAnyH_ready (rs := [23]) (by kernel_rfl) (by simp) ?_
                      refine AllReadyH.cons rfl (fun K hK => ?_) AllReadyH.nil
                      go_simp
                      refine hK.out _ _ ?_ (fun hHeld => ?_)
                      · (try dsimp only); exact keepT.out _ _ _ _ _ HV4.out _ rfl
                      clear hK K
                      (try simp only [Act.put, List.setIfInBounds_toArray, List.set_cons_zero, List.set_cons_succ])
                      refine wpAnyH_done (by kernel_rfl) ?_ _
                      clear xc0 xc1 xc2 xc3 zf ixr ixri
                      have TS4 := Lib.hid (((TS.out.below HV4.out).setM hik hjm (K4.out.tight HSX.out)).congr (fun r l _ _ => midQ_set c i j (triQ T c) hci hj1 r l))
                      have OQ4 := Lib.hid ((OQ.out.below HV4.out OQ.out.lt))
                      have RI4 := Lib.hid (PI.out.below HV4.out PI.out.lt)
                      have OQ5 := Lib.hid (((((OQ4.out.setCell (rb i) (j * 4) (.bool s4) HRQ.out).setCell (rb i) (j * 4 + 1) (.slice a4 n4 c4) HRQ.out).setCell (rb i) (j * 4 + 2) (.bool false) HRQ.out).setCell (rb i) (j * 4 + 3) (.slice b4 m4 d4) HRQ.out))
                      have KQ5 := Lib.hid ((KQ.out.mono HV4.out (Nat.le_refl _)).at4 (.bool s4) (.slice a4 n4 c4) (.bool false) (.slice b4 m4 d4) RI4.out)
                      clear TS OQ KQ PI PP keepS keepT keepX HV0 HV1 HV3 HV4 K3 K4 KI1 KP1 KQ1 TS1 OQ4 RI4 hHeld
                      go_wp2
                      go_roundw
                      case rel => exact ⟨j + 1, by omega, by omega, by go_num, TS4, OQ5, KQ5⟩
                      case measure => simp [intOf]; omega
--END22
                  · obtain rfl : j = m := by omega
                    go_wp2
                    go_roundw
                    case rel => exact ⟨i + 1, by omega, by omega, by go_num, Lib.hid (TS.out.congr (fun r l _ hl => midQ_next c i j (triQ T c) r l hl))⟩
                    case measure => simp [intOf]; omega
          · obtain rfl : i = k := by omega
            go_wp2
            go_roundw
            case rel => exact ⟨c + 1, by omega, by go_num, _, _, _, _, _, _, _, _, Lib.hid (TS.out.congr (fun r l hr _ => midQ_end c i m (triQ T c) r l hr))⟩
            case measure => simp [intOf]; omega
    · obtain rfl : c = k := by omega
      have hdt := TS.out.det
      obtain ⟨e0, e1, e2, e3, ef, el⟩ := TS.out.det
      obtain ⟨z0, z1, z2, z3, zf, zl⟩ := TS.out.res
      clear hdt
      go_wp2
      refine bodyPost_ret (v := .agg #[.bool s, .slice a n cc, .bool false, .slice a2 n2 c2]) (by simp [results, Tryz.results140, go_sem, z0, z1, z2, z3, zf]) rfl ?_
      exact ⟨⟨_, rfl⟩, TS.out.mat.far _ _ _ _ (own4_rd TS.out.res) (by have := TS.out.gl0; omega) (fun i hi => by have := TS.out.rl i hi; omega), below_st4 (o := 0) TS.out.kw TS.out.kB _ _ _ _⟩
end Go.Proofs.YtolkchkedieppaaGreat
