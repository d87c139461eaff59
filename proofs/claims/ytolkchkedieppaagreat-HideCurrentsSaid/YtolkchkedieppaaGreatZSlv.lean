/- Solve of package linear, of matrices whose pivots are above 0. (Printed by gen_slv.py.) -/
import Derived.Test.YtolkchkedieppaaGreatZTakes
import Derived.Test.YtolkchkedieppaaGreatZTri
import Derived.Deep.RegionLawGrows
set_option linter.unusedVariables false
set_option linter.unusedSimpArgs false
namespace Go.Proofs.YtolkchkedieppaaGreat
open Go.RowKit
attribute [local go_sem ↓] Go.wp_at_zero Go.wp_at_succ
/-- the cells of a row -/
def rowL (w : World) (r n : Nat) : List Value := (List.range (n * 4)).map (fun j => (w.cell? ⟨r, j, none⟩).getD undef)
theorem rowL_len (w : World) (r n : Nat) : (rowL w r n).length = n * 4 := by simp [rowL]
theorem rowL_get {w : World} {r n j : Nat} {v : Value} (hj : j < n * 4) (h : w.cell? ⟨r, j, none⟩ = some v) : (rowL w r n)[j]? = some v := by simp [rowL, hj, h]
theorem RowP.some_ {w : World} {g n K : Nat} {P : Nat → Prop} {q : Nat → Rat} (h : RowP w g n P q K) (j : Nat) (hj : j < n * 4) : ∃ v, w.cell? ⟨g, j, none⟩ = some v := by
  obtain ⟨s, a, m, c, a2, m2, c2, hr, _⟩ := h.cell (j / 4) (by omega)
  have hm : j % 4 < 4 := Nat.mod_lt _ (by omega)
  have e : j = j / 4 * 4 + j % 4 := by omega
  rcases (by omega : j % 4 = 0 ∨ j % 4 = 1 ∨ j % 4 = 2 ∨ j % 4 = 3) with h | h | h | h <;> rw [h] at e
  · exact ⟨_, by rw [e]; exact hr.c0⟩
  · exact ⟨_, by rw [e]; exact hr.c1⟩
  · exact ⟨_, by rw [e]; exact hr.c2⟩
  · exact ⟨_, by rw [e]; exact hr.c3⟩
theorem rowL_cells {w : World} {g n K : Nat} {P : Nat → Prop} {q : Nat → Rat} (h : RowP w g n P q K) : ∀ b, some (⟨g, 0, none⟩ : Addr) = some b → ∀ j u, (rowL w g n)[j]? = some u → w.cell? (b.add j) = some u := fun b hb j u hj => by
  cases hb
  have hjn : j < n * 4 := by have := (List.getElem?_eq_some_iff.1 hj).1; rw [rowL_len] at this; exact this
  obtain ⟨v, hv⟩ := h.some_ j hjn
  rw [rowL_get hjn hv] at hj
  rw [add_at, Nat.zero_add, hv]; exact hj
theorem rowL_below {w w' : World} {g n K B : Nat} {P : Nat → Prop} {q : Nat → Rat} (h : RowP w g n P q K) (hb : Below B w w') (hB : w.heap.size ≤ B) : rowL w' g n = rowL w g n := by
  unfold rowL
  apply List.map_congr_left
  intro j hj
  rw [hb.cell (p := ⟨g, j, none⟩) (Nat.lt_of_lt_of_le h.lt hB)]
/-- a row of Rats to which one was appended, in memory of its own -/
theorem row_grow {w w1 : World} {r n K base : Nat} {q : Nat → Rat} {v : Value} {x : Rat} {s : Bool} {a a2 : Option Addr} {m c m2 c2 : Nat} (h : RatRow w r n q K) (hb : Below w.heap.size w w1)
    (hx : RatIs w1 (.agg #[.bool s, .slice a m c, .bool false, .slice a2 m2 c2]) x K)
    (hown : w1.ownsRow base 115 4 v (n + 1) (rowL w r n ++ [.bool s, .slice a m c, .bool false, .slice a2 m2 c2])) :
    ∃ g cap, v = .slice (some ⟨g, 0, none⟩) (n + 1) cap ∧ base ≤ g ∧ RatRow w1 g (n + 1) (fun j => if j < n then q j else x) K := by
  rcases hown.2 with ⟨_, h0⟩ | ⟨g, cap, cur, hv, hbg, hg, hcap, hml, hsz, htk⟩
  · omega
  · subst hv
    have hlt : g < w1.heap.size := (Array.getElem?_eq_some_iff.1 hg).1
    have hc := hown.cells (g := g) rfl
    have cl : ∀ j u, (rowL w r n ++ [.bool s, .slice a m c, .bool false, .slice a2 m2 c2])[j]? = some u → w1.cell? ⟨g, j, none⟩ = some u := fun j u hj => by
      have := hc j u hj
      rw [add_at, Nat.zero_add] at this; exact this
    refine ⟨g, cap, rfl, hbg, ⟨fun j hj => ?_, fun o => by simp [World.frozen?, hg], hlt⟩⟩
    by_cases hjn : j < n
    · obtain ⟨s', a', m', c', a2', m2', c2', hr, hv⟩ := h.cell j hjn
      have k : ∀ o u, o < 4 → w.cell? ⟨r, j * 4 + o, none⟩ = some u → w1.cell? ⟨g, j * 4 + o, none⟩ = some u := fun o u ho hu => by
        refine cl _ u ?_
        rw [List.getElem?_append_left (by rw [rowL_len]; omega)]
        exact rowL_get (by omega) hu
      exact ⟨s', a', m', c', a2', m2', c2', ⟨k 0 _ (by omega) hr.c0, k 1 _ (by omega) hr.c1, k 2 _ (by omega) hr.c2, k 3 _ (by omega) hr.c3, hlt⟩, fun _ => by
        simp only [if_pos hjn]; exact (hv trivial).mono hb (Nat.le_refl _)⟩
    · obtain rfl : j = n := by omega
      have k : ∀ o u, [.bool s, .slice a m c, .bool false, .slice a2 m2 c2][o]? = some u → w1.cell? ⟨g, j * 4 + o, none⟩ = some u := fun o u hu => by
        refine cl _ u ?_
        rw [List.getElem?_append_right (by rw [rowL_len]; omega), rowL_len, show j * 4 + o - j * 4 = o by omega]; exact hu
      exact ⟨s, a, m, c, a2, m2, c2, ⟨k 0 _ rfl, k 1 _ rfl, k 2 _ rfl, k 3 _ rfl, hlt⟩, fun _ => by simp only [if_neg hjn]; exact hx⟩
/-- the matrix while its right side is appended, row by row -/
structure AppS (w : World) (B g k i : Nat) (rb rc : Nat → Nat) (Q : Nat → Nat → Rat) (b : Nat → Rat) (K : Nat) : Prop where
  hdr : ∀ r, r < k → w.cell? ⟨g, r, none⟩ = some (.slice (some ⟨rb r, 0, none⟩) (if r < i then k + 1 else k) (rc r))
  hf : ∀ o, w.frozen? ⟨g, o, none⟩ = false
  gB : B ≤ g
  gl : g < w.heap.size
  done : ∀ r, r < i → RatRow w (rb r) (k + 1) (fun j => if j < k then Q r j else b r) K
  todo : ∀ r, i ≤ r → r < k → RatRow w (rb r) k (Q r) K
  cap : ∀ r, i ≤ r → r < k → rc r = k
  rB : ∀ r, r < k → B ≤ rb r
  ne : ∀ r, r < k → rb r ≠ g
  apart : ∀ r r', r < k → r' < k → r ≠ r' → rb r ≠ rb r'
theorem AppS.start {w : World} {B g k K : Nat} {rb : Nat → Nat} {Q : Nat → Nat → Rat} {b : Nat → Rat} (h : RMat w B g k k rb (fun _ => k) Q K) : AppS w B g k 0 rb (fun _ => k) Q b K :=
  ⟨fun r hr => by rw [if_neg (by omega)]; exact h.hdr r hr, h.hf, h.gB, h.gl, fun r hr => by omega, fun r _ hr => h.row r hr, fun _ _ _ => rfl, h.rB, h.ne, h.apart⟩
theorem AppS.fin {w : World} {B g k K : Nat} {rb rc : Nat → Nat} {Q : Nat → Nat → Rat} {b : Nat → Rat} (h : AppS w B g k k rb rc Q b K) : RMat w B g k (k + 1) rb rc (fun r j => if j < k then Q r j else b r) K :=
  ⟨fun r hr => by have := h.hdr r hr; rw [if_pos hr] at this; exact this, h.hf, h.gB, h.gl, fun r hr => h.done r hr, h.rB, h.ne, h.apart⟩
theorem AppS.below {w w' : World} {B g k i K B' : Nat} {rb rc : Nat → Nat} {Q : Nat → Nat → Rat} {b : Nat → Rat} (h : AppS w B g k i rb rc Q b K) (hi : i ≤ k) (hb : Below B' w w') (hB : w.heap.size ≤ B') : AppS w' B g k i rb rc Q b K :=
  ⟨fun r hr => bel1 hb (h.hdr r hr) (Nat.lt_of_lt_of_le h.gl hB), fun o => (hb.frozen (p := ⟨g, o, none⟩) (Nat.lt_of_lt_of_le h.gl hB)).trans (h.hf o), h.gB, Nat.lt_of_lt_of_le h.gl hb.size,
   fun r hr => (h.done r hr).below hb hB, fun r h1 h2 => (h.todo r h1 h2).below hb hB, h.cap, h.rB, h.ne, h.apart⟩
theorem AppS.push {w : World} {B g k i K r2 rc2 : Nat} {rb rc : Nat → Nat} {Q : Nat → Nat → Rat} {b : Nat → Rat} (h : AppS w B g k i rb rc Q b K) (hi : i < k) (hr : RatRow w r2 (k + 1) (fun j => if j < k then Q i j else b i) K)
    (hne : ∀ r, r < k → rb r ≠ r2) (hg : g ≠ r2) (hB : B ≤ r2) : AppS (w.setCell ⟨g, i, none⟩ (.slice (some ⟨r2, 0, none⟩) (k + 1) rc2)) B g k (i + 1) (setN rb i r2) (setN rc i rc2) Q b K := by
  have hc := h.hdr i hi
  have far : ∀ {r n : Nat} {q : Nat → Rat}, g ≠ r → RatRow w r n q K → RatRow (w.setCell ⟨g, i, none⟩ (.slice (some ⟨r2, 0, none⟩) (k + 1) rc2)) r n q K := fun h1 h2 => RowP.storeFar h2 _ hc (noInt_slice _ _ _) h1
  refine ⟨fun r hrk => ?_, fun o => by rw [World.frozen?_setCell]; exact h.hf o, h.gB, by simp only [World.setCell, Array.size_modify]; exact h.gl, fun r hr1 => ?_, fun r h1 h2 => ?_, fun r h1 h2 => ?_, fun r hrk => ?_, fun r hrk => ?_, fun r r' h1 h2 h3 => ?_⟩
  · by_cases e : r = i
    · subst e; rw [setN_self, setN_self, if_pos (by omega)]; exact self_set hc
    · rw [setN_ne _ _ e, setN_ne _ _ e, off_set e (h.hdr r hrk)]
      by_cases e2 : r < i
      · rw [if_pos e2, if_pos (by omega)]
      · rw [if_neg e2, if_neg (by omega)]
  · by_cases e : r = i
    · subst e; rw [setN_self]; exact far hg hr
    · rw [setN_ne _ _ e]; exact far (fun q => h.ne r (by omega) q.symm) (h.done r (by omega))
  · rw [setN_ne _ _ (by omega)]; exact far (fun q => h.ne r h2 q.symm) (h.todo r (by omega) h2)
  · rw [setN_ne _ _ (by omega)]; exact h.cap r (by omega) h2
  · by_cases e : r = i
    · subst e; rw [setN_self]; exact hB
    · rw [setN_ne _ _ e]; exact h.rB r hrk
  · by_cases e : r = i
    · subst e; rw [setN_self]; exact fun q => hg q.symm
    · rw [setN_ne _ _ e]; exact h.ne r hrk
  · by_cases e : r = i
    · subst e; rw [setN_self, setN_ne _ _ (fun q => h3 q.symm)]; exact fun q => hne r' h2 q.symm
    · by_cases e2 : r' = i
      · subst e2; rw [setN_self, setN_ne _ _ e]; exact hne r h1
      · rw [setN_ne _ _ e, setN_ne _ _ e2]; exact h.apart r r' h1 h2 h3
theorem cells4' {W : World} {r o : Nat} {x0 x1 x2 x3 : Value} (h : Rd4 W r o x0 x1 x2 x3) : ∀ j u, [x0, x1, x2, x3][j]? = some u → W.cell? ((⟨r, o, none⟩ : Addr).add j) = some u := fun j u hj => by
  match j, hj with
  | 0, hj => simp at hj; subst hj; simpa [Addr.add] using h.c0
  | 1, hj => simp at hj; subst hj; rw [add_at]; exact h.c1
  | 2, hj => simp at hj; subst hj; rw [add_at]; exact h.c2
  | 3, hj => simp at hj; subst hj; rw [add_at]; exact h.c3
theorem one4' (x0 x1 x2 x3 : Value) (h0 : x0.oneCell' = true) (h1 : x1.oneCell' = true) (h2 : x2.oneCell' = true) (h3 : x3.oneCell' = true) : ∀ u ∈ [x0, x1, x2, x3], u.oneCell' = true := fun u hu => by
  simp at hu
  rcases hu with rfl | rfl | rfl | rfl <;> assumption
/-- with its right side -/
def augQ (k : Nat) (Q : Nat → Nat → Rat) (b : Nat → Rat) (r j : Nat) : Rat := if j < k then Q r j else b r
set_option maxHeartbeats 8000000 in
set_option maxRecDepth 100000 in
theorem lsolve_any (B g gc k bb bc : Nat) (rb : Nat → Nat) (Q : Nat → Nat → Rat) (b x : Nat → Rat) (KM KX : Nat) (w : World) (h0 : 0 < k) (hk : k ≤ 24) (hB : B ≤ w.heap.size) (h : RMat w B g k k rb (fun _ => k) Q KM) (hb : RatRow w bb k b KM) (hbg : bb ≠ g)
    (hpiv : ∀ c, c < k → 0 < triQ (augQ k Q b) c c c) (hsz : ∀ c, c ≤ k → ∀ i j, i < k → j < k + 1 → szQ (triQ (augQ k Q b) c i j) ≤ KM) (hK1 : 2 ≤ KM) (hK2 : KM ≤ 100000000)
    (hx : ∀ i, i < k → resid k i (triQ (augQ k Q b) k) x i = 0) (hxs : ∀ i, i < k → szQ (x i) ≤ KX) (hX : KX ≤ 100000000) :
    Calls Tryz.prog 114 #[.slice (some ⟨g, 0, none⟩) k gc, .slice (some ⟨bb, 0, none⟩) k bc] w fun e w' => ∃ X, e = .returned (.slice (some ⟨X, 0, none⟩) k k) ∧ RatRow w' X k x KX ∧ w.heap.size ≤ X ∧ Below B w w' := by
  have AS : Hid (AppS w B g k 0 rb (fun _ => k) Q b KM) := Lib.hid (AppS.start h)
  have HBR := Lib.hid hb
  have HBL := Lib.hid hb.lt
  have HBG := Lib.hid hbg
  have HP := Lib.hid hpiv
  have HSZ := Lib.hid hsz
  have HX := Lib.hid hx
  have HXS := Lib.hid hxs
  have HB := Lib.hid hB
  have KW0 := Lib.hid (Below.refl B w)
  have HS0 := Lib.hid (Nat.le_refl w.heap.size)
  obtain ⟨i0, hi, hz0, hz1, hz2⟩ := info_parts infoR
  have hmk := mkRn k (by omega)
  clear h hb hbg hpiv hsz hx hxs hB
  go_enter Tryz.func114, Tryz.ntmps114
  go_wp2
  go_loopw [5, 13] (fun v5 v13 wr => ∃ i : Nat, i ≤ k ∧ v13 = .int .i64 (i : Nat) ∧ ∃ rb rc, Hid (AppS wr B g k i rb rc Q b KM) ∧ Hid (RatRow wr bb k b KM) ∧ Hid (w.heap.size ≤ wr.heap.size) ∧ Hid (Below B w wr)) (fun _ v13 _ => k - (intOf v13).toNat)
  case atStart => exact ⟨0, by omega, rfl, _, _, AS, HBR, HS0, KW0⟩
  case round =>
    clear AS HBR KW0 HS0
    obtain ⟨i, hik, rfl, rb, rc, AS, HBR, HS, KW⟩ := hrel
    by_cases h : i < k
    · have ix1 := fun W => ixL g 0 k gc i h W
      have ixb := fun W => rowIx bb k bc i h W
      simp only [Nat.zero_add] at ix1
      have hdr := AS.out.hdr i h
      rw [if_neg (by omega), AS.out.cap i (Nat.le_refl _) h] at hdr
      have HDR := Lib.hid hdr
      obtain ⟨sb, ab, nb, cb, ab2, nb2, cb2, BP, KB⟩ := HBR.out.cell i h
      have BP := Lib.hid BP
      have KB := Lib.hid (KB trivial)
      obtain ⟨y0, y1, y2, y3, yl⟩ := BP.out
      have ROW := Lib.hid (AS.out.todo i (Nat.le_refl _) h)
      have HV := Lib.hid (((Below.refl wr.heap.size wr).drew).alloc (Nat.le_refl _) (.cells #[.bool sb, .slice ab nb cb, .bool false, .slice ab2 nb2 cb2] 115))
      have NEW := Lib.hid (own4_rd (own4_new wr.drew wr.heap.size rfl (.bool sb) (.slice ab nb cb) (.bool false) (.slice ab2 nb2 cb2) 115))
      have HRL := Lib.hid (rowL_below ROW.out HV.out (Nat.le_refl _))
      have ROW2 := Lib.hid (ROW.out.below HV.out (Nat.le_refl _))
      have dq1 : ¬ g = wr.heap.size := by have := AS.out.gl; omega
      have hgA := bel1 (boxes1 wr (.cells #[.bool sb, .slice ab nb cb, .bool false, .slice ab2 nb2 cb2] 115)) hdr AS.out.gl
      go_wp2
      go_region_law ((refine step_append_grows rfl (.tmp 21) (.tmp 26) 107 rfl 115 i0 _ 4 64 Tryz.underlying107 hi hz0 hz1 hz2 rfl (by decide) (some ⟨rb i, 0, none⟩) k k (rowL wr (rb i) k) (by simp [Act.eval, Act.put]) (fun h => by cases h) (rowL_len _ _ _) (by rw [← HRL.out]; exact rowL_cells ROW2.out) ⟨wr.heap.size, 0, none⟩ 1 1 [.bool sb, .slice ab nb cb, .bool false, .slice ab2 nb2 cb2] (by simp [Act.eval, Act.put]) rfl (cells4' NEW.out) (one4' _ _ _ _ rfl rfl rfl rfl) (by omega) (by unfold maxLen; omega) (by omega) ?_); intro v' w1 hown hgrow; have HV1 := Lib.hid (HV.out.grown hgrow (by simp) (fun k h => by cases h)); rw [← HRL.out] at hown; obtain ⟨r2, rc2, rfl, hrb, PR⟩ := row_grow ROW2.out ((Below.refl _ _).grown hgrow (Nat.le_refl _) (fun k h => by cases h)) ((KB.out.mono HV1.out (Nat.le_refl _))) hown; have PR := Lib.hid PR; have HR2 : Hid (wr.heap.size ≤ r2) := Lib.hid (by simp at hrb; omega); have g1 := bel1 HV1.out HDR.out AS.out.gl; have gf1 := (HV1.out.frozen (p := ⟨g, i, none⟩) AS.out.gl).trans (AS.out.hf i); clear hown hgrow hrb)
      all_goals
        have AS2 := Lib.hid ((AS.out.below (Nat.le_of_lt h) HV1.out (Nat.le_refl _)).push (rc2 := rc2) h PR.out (fun r hr => by
          have h2 := HR2.out
          rcases Nat.lt_or_ge r i with h3 | h3
          · have := (AS.out.done r h3).lt; omega
          · have := (AS.out.todo r h3 hr).lt; omega) (by have h2 := HR2.out; have := AS.out.gl; omega) (by have h2 := HR2.out; have := AS.out.gB; have := AS.out.gl; omega))
        have HB2 := Lib.hid (RowP.storeFar (HBR.out.below HV1.out (Nat.le_refl _)) (.slice (some ⟨r2, 0, none⟩) (k + 1) rc2) g1 (noInt_slice _ _ _) (fun e => HBG.out e.symm))
        have KW2 : Hid (Below B w (w1.setCell ⟨g, i, none⟩ (.slice (some ⟨r2, 0, none⟩) (k + 1) rc2))) := Lib.hid ((KW.out.trans (HV1.out.mono (by have := AS.out.gB; have := AS.out.gl; omega))).setCell AS.out.gB _)
        have HS2 : Hid (w.heap.size ≤ (w1.setCell ⟨g, i, none⟩ (.slice (some ⟨r2, 0, none⟩) (k + 1) rc2)).heap.size) := Lib.hid (by simp only [World.setCell, Array.size_modify]; exact Nat.le_trans HS.out HV1.out.size)
        go_wp2
        go_roundw
        case rel => exact ⟨i + 1, by omega, by go_num, _, _, AS2, HB2, HS2, KW2⟩
        case measure => simp [intOf]; omega
    · obtain rfl : k = i := by omega
      obtain ⟨m, hm⟩ : ∃ m, m = k + 1 := ⟨_, rfl⟩
      have RM : Hid (RMat wr B g k m rb rc (augQ k Q b) KM) := Lib.hid (by rw [hm]; exact AS.out.fin)
      have HSZ2 : Hid (∀ c, c ≤ k → ∀ i j, i < k → j < m → szQ (triQ (augQ k Q b) c i j) ≤ KM) := Lib.hid (by rw [hm]; exact HSZ.out)
      have HBW : Hid (B ≤ wr.heap.size) := Lib.hid (Nat.le_trans HB.out HS.out)
      have hm9 : m ≤ 25 := by omega
      have hkm : k < m := by omega
      have HM := Lib.hid hm
      clear hm AS HBR HSZ HBG HBL
      go_wp2_with (first
        | (go_at_call 140; (with_reducible refine (triangle_any B g gc k m rb rc (augQ k Q b) KM _ hk HM.out HBW.out RM.out HP.out HSZ2.out hK1 hK2).mono ?_); rintro e w3 ⟨⟨r3, rfl⟩, RM3, hb3⟩; have RM := Lib.hid RM3; have KW := Lib.hid (KW.out.trans hb3); have HS := Lib.hid (Nat.le_trans HS.out hb3.size); clear RM3 hb3))
      obtain ⟨TK, hTK⟩ : ∃ TK, TK = triQ (augQ k Q b) k := ⟨_, rfl⟩
      rw [← hTK] at RM
      have HTS : Hid (∀ i j, i < k → j < m → szQ (TK i j) ≤ KM) := Lib.hid (by rw [hTK]; exact HSZ2.out k (Nat.le_refl _))
      have HTP : Hid (∀ i, i < k → 0 < TK i i) := Lib.hid (fun i hi => by
        have h1 := triQ_row (augQ k Q b) i i (k - i) i (Nat.le_refl _)
        rw [show i + (k - i) = k by omega] at h1
        rw [hTK, h1]; exact HP.out i hi)
      have HX2 : Hid (∀ i, i < k → resid k i TK x i = 0) := Lib.hid (by rw [hTK]; exact HX.out)
      have HLO : Hid (g < w3.heap.size ∧ ∀ r, r < k → rb r < w3.heap.size) := Lib.hid ⟨RM.out.gl, fun r hr => (RM.out.row r hr).lt⟩
      have HBX : Hid (B ≤ w3.heap.size) := Lib.hid (Nat.le_trans HB.out HS.out)
      clear hTK HX HP HSZ2 HBW
      have PX : Hid (RowP (w3.alloc (.cells (madeCells zR (k * 4)) 115)) w3.heap.size k (fun j => k ≤ j) x KX) := Lib.hid ((RowP.made w3 k x KX).congr (fun j hj h => by omega))
      have RM := Lib.hid (RM.out.alloc (.cells (madeCells zR (k * 4)) 115))
      have KW := Lib.hid (KW.out.alloc HBX.out (.cells (madeCells zR (k * 4)) 115))
      obtain ⟨X, hX2⟩ : ∃ X, X = w3.heap.size := ⟨_, rfl⟩
      rw [← hX2] at PX HLO HBX HS
      rw [← hX2]
      obtain ⟨wy, hwy⟩ : ∃ wy, wy = w3.alloc (.cells (madeCells zR (k * 4)) 115) := ⟨_, rfl⟩
      rw [← hwy] at PX RM KW
      rw [← hwy]
      clear hwy hX2 hmk
      obtain ⟨KS, hKS⟩ : ∃ KS, KS = KM + 24 * (KM + KX + 1) := ⟨_, rfl⟩
      have HKB : Hid (KM ≤ KS ∧ KS ≤ 6000000000) := Lib.hid (by omega)
      have HBK : Hid (∀ i d, i < k → i + 1 + d ≤ k → szQ (backS TK x k i d) ≤ KS) := Lib.hid (fun i d hi hd => by
        have h1 := szQ_back TK x k i (A := KM) (X := KX) (fun j hj => HTS.out i j hi (by omega)) (fun j hj => HXS.out j hj) d hd
        have h2 : d * (KM + KX + 1) ≤ 24 * (KM + KX + 1) := Nat.mul_le_mul_right _ (by omega)
        omega)
      clear hKS
      go_loopw [8, 9, 10] (fun v8 v9 v10 wi => ∃ d : Nat, d ≤ k ∧ v8 = .int .i64 ((d : Int) - 1) ∧ Hid (RMat wi B g k m rb rc TK KM) ∧ Hid (RowP wi X k (fun j => d ≤ j) x KX) ∧ Hid (Below B w wi)) (fun v8 _ _ _ => (intOf v8 + 1).toNat)
      case atStart => exact ⟨k, by omega, by first | rfl | go_num, RM, PX, KW⟩
      case round =>
        clear RM PX KW
        obtain ⟨d, hdk, rfl, RM, PX, KW⟩ := hrel
        by_cases hd0 : 0 < d
        · obtain ⟨i, rfl⟩ : ∃ i, d = i + 1 := ⟨d - 1, by omega⟩
          have e1 : ((i + 1 : Nat) : Int) - 1 = (i : Int) := by omega
          rw [e1]
          clear e1 hd0
          have hik : i < k := by omega
          obtain ⟨wz, rfl⟩ : ∃ wz : World, wz = wr := ⟨_, rfl⟩
          obtain ⟨sn, an, nn, cn, an2, nn2, cn2, PN, KN⟩ := RM.out.at_ hik hkm
          have PN := Lib.hid PN
          have KN := Lib.hid KN
          have ixg := fun W => ixL g 0 k gc i hik W
          have ixn := fun W => rowIx (rb i) m (rc i) k hkm W
          simp only [Nat.zero_add] at ixg
          have g0 := RM.out.hdr i hik
          obtain ⟨n0, n1, n2, n3, nl_⟩ := PN.out
          have hik2 : decide ((0 : Int) ≤ (i : Int)) = true := by simp
          have PS := Lib.hid (own4_new wz _ rfl (.bool sn) (.slice an nn cn) (.bool false) (.slice an2 nn2 cn2) 115)
          have VS : Hid (RatIs (wz.alloc (.cells #[.bool sn, .slice an nn cn, .bool false, .slice an2 nn2 cn2] 115)) (.agg #[.bool sn, .slice an nn cn, .bool false, .slice an2 nn2 cn2]) (backS TK x k i 0) KS) := Lib.hid ((KN.out.mono (boxes1 wz _) (Nat.le_refl _)).le HKB.out.1)
          have HSB : Hid (X < wz.heap.size) := Lib.hid PX.out.lt
          have RM := Lib.hid (RM.out.alloc (.cells #[.bool sn, .slice an nn cn, .bool false, .slice an2 nn2 cn2] 115))
          have PX := Lib.hid (PX.out.alloc (.cells #[.bool sn, .slice an nn cn, .bool false, .slice an2 nn2 cn2] 115))
          have KW := Lib.hid (KW.out.alloc (by have := HSB.out; have := HBX.out; omega) (.cells #[.bool sn, .slice an nn cn, .bool false, .slice an2 nn2 cn2] 115))
          go_wp2
          obtain ⟨Sb, hSb⟩ : ∃ Sb, Sb = wz.heap.size := ⟨_, rfl⟩
          rw [← hSb] at PS HSB
          rw [← hSb]
          obtain ⟨wv, hwv⟩ : ∃ wv, wv = wz.alloc (.cells #[.bool sn, .slice an nn cn, .bool false, .slice an2 nn2 cn2] 115) := ⟨_, rfl⟩
          rw [← hwv] at PS VS RM PX KW
          rw [← hwv]
          clear hwv hSb PN KN n0 n1 n2 n3 nl_ ixn g0
          go_loopw [10] (fun v10 wj => ∃ (j e : Nat) (s : Bool) (a : Option Addr) (n c : Nat) (a2 : Option Addr) (n2 c2 : Nat), j ≤ k ∧ v10 = .int .i64 (j : Nat) ∧ Hid (j = i + 1 + e) ∧ Hid (RMat wj B g k m rb rc TK KM) ∧ Hid (RowP wj X k (fun j => i + 1 ≤ j) x KX) ∧
            Hid (Own4 wj Sb (.bool s) (.slice a n c) (.bool false) (.slice a2 n2 c2)) ∧ Hid (RatIs wj (.agg #[.bool s, .slice a n c, .bool false, .slice a2 n2 c2]) (backS TK x k i e) KS) ∧ Hid (Below B w wj)) (fun v10 _ => k - (intOf v10).toNat)
          case atStart => exact ⟨i + 1, 0, _, _, _, _, _, _, _, by omega, by go_num, Lib.hid rfl, RM, PX, PS, VS, KW⟩
          case round =>
            clear RM PX KW PS VS
            obtain ⟨j, e, s, a, n, cc, a2, n2, c2, hie, rfl, HJ, RM, PX, PS, VS, KW⟩ := hrel
            obtain ⟨wq, rfl⟩ : ∃ wq : World, wq = wr := ⟨_, rfl⟩
            have HFAR : Hid (Sb ≠ g ∧ (∀ r, r < k → Sb ≠ rb r) ∧ Sb ≠ X ∧ B ≤ Sb ∧ X ≠ g ∧ (∀ r, r < k → X ≠ rb r)) := Lib.hid (by
              have h1 := HLO.out; have h2 := HSB.out; have h3 := HBX.out
              exact ⟨by omega, fun r hr => by have := h1.2 r hr; omega, by omega, by omega, by omega, fun r hr => by have := h1.2 r hr; omega⟩)
            by_cases hjk : j < k
            · have hjm : j < m := by omega
              have HSX : Hid (szQ (backS TK x k i e - TK i j * x j) ≤ KS) := Lib.hid (by
                have h1 := HBK.out i (e + 1) hik (by have := HJ.out; omega)
                simp only [backS] at h1
                rw [← HJ.out] at h1
                exact h1)
              have HBS : Hid (backS TK x k i e - TK i j * x j = backS TK x k i (e + 1)) := Lib.hid (by simp only [backS]; rw [← HJ.out])
              obtain ⟨si, ai, ni, ei, ai2, ni2, ei2, PI, KI⟩ := RM.out.at_ hik hjm
              obtain ⟨sx, ax, nx, cx, ax2, nx2, cx2, PV, KV⟩ := PX.out.cell j hjk
              have KV := KV (by have := HJ.out; omega)
              have PI := Lib.hid PI
              have PV := Lib.hid PV
              have ixr := fun W => rowIx (rb i) m (rc i) j hjm W
              have ixx := fun W => rowIx X k k j hjk W
              have keepS : Hid (∀ w', Below wq.heap.size wq w' → w'.cell? ⟨g, i, none⟩ = some (.slice (some ⟨rb i, 0, none⟩) m (rc i)) ∧ w'.cell? ⟨rb i, j * 4, none⟩ = some (.bool si) ∧ w'.cell? ⟨rb i, j * 4 + 1, none⟩ = some (.slice ai ni ei) ∧ w'.cell? ⟨rb i, j * 4 + 2, none⟩ = some (.bool false) ∧ w'.cell? ⟨rb i, j * 4 + 3, none⟩ = some (.slice ai2 ni2 ei2) ∧
                w'.cell? ⟨X, j * 4, none⟩ = some (.bool sx) ∧ w'.cell? ⟨X, j * 4 + 1, none⟩ = some (.slice ax nx cx) ∧ w'.cell? ⟨X, j * 4 + 2, none⟩ = some (.bool false) ∧ w'.cell? ⟨X, j * 4 + 3, none⟩ = some (.slice ax2 nx2 cx2)) :=
                Lib.hid (fun w' hb => ⟨bel1 hb (RM.out.hdr i hik) RM.out.gl, bel1 hb PI.out.c0 PI.out.lt, bel1 hb PI.out.c1 PI.out.lt, bel1 hb PI.out.c2 PI.out.lt, bel1 hb PI.out.c3 PI.out.lt,
                  bel1 hb PV.out.c0 PV.out.lt, bel1 hb PV.out.c1 PV.out.lt, bel1 hb PV.out.c2 PV.out.lt, bel1 hb PV.out.c3 PV.out.lt⟩)
              have keepT : Hid (∀ W u0 u1 u2 u3, Below wq.heap.size wq W → ∀ w', w' = st4 W Sb 0 u0 u1 u2 u3 → w'.cell? ⟨g, i, none⟩ = some (.slice (some ⟨rb i, 0, none⟩) m (rc i)) ∧ w'.cell? ⟨rb i, j * 4, none⟩ = some (.bool si) ∧ w'.cell? ⟨rb i, j * 4 + 1, none⟩ = some (.slice ai ni ei) ∧ w'.cell? ⟨rb i, j * 4 + 2, none⟩ = some (.bool false) ∧ w'.cell? ⟨rb i, j * 4 + 3, none⟩ = some (.slice ai2 ni2 ei2) ∧
                w'.cell? ⟨X, j * 4, none⟩ = some (.bool sx) ∧ w'.cell? ⟨X, j * 4 + 1, none⟩ = some (.slice ax nx cx) ∧ w'.cell? ⟨X, j * 4 + 2, none⟩ = some (.bool false) ∧ w'.cell? ⟨X, j * 4 + 3, none⟩ = some (.slice ax2 nx2 cx2)) :=
                Lib.hid (fun W u0 u1 u2 u3 hb w' e => by
                  subst e
                  obtain ⟨f0, f1, f2, f3, f4, f5, f6, f7, f8⟩ := keepS.out W hb
                  exact ⟨(far4 _ _ _ _ HFAR.out.1).trans f0, (far4 _ _ _ _ (HFAR.out.2.1 i hik)).trans f1, (far4 _ _ _ _ (HFAR.out.2.1 i hik)).trans f2, (far4 _ _ _ _ (HFAR.out.2.1 i hik)).trans f3, (far4 _ _ _ _ (HFAR.out.2.1 i hik)).trans f4,
                    (far4 _ _ _ _ HFAR.out.2.2.1).trans f5, (far4 _ _ _ _ HFAR.out.2.2.1).trans f6, (far4 _ _ _ _ HFAR.out.2.2.1).trans f7, (far4 _ _ _ _ HFAR.out.2.2.1).trans f8⟩)
              have keepX : Hid (∀ w', Below wq.heap.size wq w' → w'.cell? ⟨Sb, 0, none⟩ = some (.bool s) ∧ w'.cell? ⟨Sb, 1, none⟩ = some (.slice a n cc) ∧ w'.cell? ⟨Sb, 2, none⟩ = some (.bool false) ∧ w'.cell? ⟨Sb, 3, none⟩ = some (.slice a2 n2 c2) ∧ ∀ o, w'.frozen? ⟨Sb, o, none⟩ = false) :=
                Lib.hid (fun w' hb => ⟨bel1 hb PS.out.c0 PS.out.lt, bel1 hb PS.out.c1 PS.out.lt, bel1 hb PS.out.c2 PS.out.lt, bel1 hb PS.out.c3 PS.out.lt, fun o => (hb.frozen (p := ⟨Sb, o, none⟩) PS.out.lt).trans (PS.out.f o)⟩)
              go_upto_region 16 with (fail)
              have HV0 := Lib.hid (Below.refl wq.heap.size wq)
              have HV1 := Lib.hid (Below.refl wq.heap.size wq).drew
              have KI1 := Lib.hid (KI.mono HV1.out (Nat.le_refl _))
              have KV1 := Lib.hid (KV.mono HV1.out (Nat.le_refl _))
              have VS1 := Lib.hid (VS.out.mono HV1.out (Nat.le_refl _))
              clear KI KV
              obtain ⟨xa0, xa1, xa2, xa3, xa4⟩ := keepX.out _ HV0.out
              refine wp_region_held_drew (S := fun w' => w'.cell? ⟨g, i, none⟩ = some (.slice (some ⟨rb i, 0, none⟩) m (rc i)) ∧ w'.cell? ⟨rb i, j * 4, none⟩ = some (.bool si) ∧ w'.cell? ⟨rb i, j * 4 + 1, none⟩ = some (.slice ai ni ei) ∧ w'.cell? ⟨rb i, j * 4 + 2, none⟩ = some (.bool false) ∧ w'.cell? ⟨rb i, j * 4 + 3, none⟩ = some (.slice ai2 ni2 ei2) ∧
                w'.cell? ⟨X, j * 4, none⟩ = some (.bool sx) ∧ w'.cell? ⟨X, j * 4 + 1, none⟩ = some (.slice ax nx cx) ∧ w'.cell? ⟨X, j * 4 + 2, none⟩ = some (.bool false) ∧ w'.cell? ⟨X, j * 4 + 3, none⟩ = some (.slice ax2 nx2 cx2)) (by kernel_rfl) (keepS.out _ HV1.out) (fun hHeld => ?_)
              refine wtk_begin [1, 2, 3, 4, 5, 6, 7, 8, 9, 10, 11] ?_
              iterate 11 (refine wtk (v := ?_) rfl (by kernel_rfl) (fun _ _ _ h => h) (by kernel_rfl) ?_ (by assumption) ?_; rotate_left; (focus intro w0 hSw; (try dsimp only at hSw); go_simp; all_goals (with_reducible rfl)); simp only [Act.put, List.setIfInBounds_toArray, List.set_cons_zero, List.set_cons_succ])
              refine wtk_end ?_
              refine wpAnyH_ready (rs := [0, 12]) (by kernel_rfl) (by simp) ?_
              refine AllReadyH.cons rfl (fun K hK => ?_) (AllReadyH.cons rfl (fun K hK => ?_) AllReadyH.nil)
              ·
                go_simp
                refine hK.out _ _ ?_ (fun hHeld => ?_)
                · (try dsimp only); exact keepS.out _ HV1.out
                clear hK K
                (try simp only [Act.put, List.setIfInBounds_toArray, List.set_cons_zero, List.set_cons_succ])
                refine wpAnyH_ready (rs := [12]) (by kernel_rfl) (by simp) ?_
                refine AllReadyH.cons rfl (fun K hK => ?_) AllReadyH.nil
                go_simp
                (go_at_call 69; (with_reducible refine (rat_mul _ _ (TK i j) (x j) (KM + KX) _ (KI1.out.le (by omega)) (KV1.out.le (by omega)) (by omega) (by omega)).mono ?_); rintro e w4 ⟨r4, rfl, hr4, hb4⟩; obtain ⟨s4, a4, n4, c4, b4, m4, d4, rfl, K4⟩ := hr4.shape; clear hr4; have HV4 := Lib.hid (HV1.out.trans (hb4.mono HV1.out.size)); have VS4 := Lib.hid (VS1.out.mono hb4 (Nat.le_refl _)); clear hb4 xa0 xa1 xa2 xa3 xa4; obtain ⟨xb0, xb1, xb2, xb3, xb4⟩ := keepX.out _ HV4.out)
                go_wp2_with fail
                refine hK.out _ _ ?_ (fun hHeld => ?_)
                · (try dsimp only); exact keepS.out _ HV4.out
                clear hK K
                (try simp only [Act.put, List.setIfInBounds_toArray, List.set_cons_zero, List.set_cons_succ])
                refine wpAnyH_ready (rs := [13]) (by kernel_rfl) (by simp) ?_
                refine AllReadyH.cons rfl (fun K hK => ?_) AllReadyH.nil
                go_simp
                (go_at_call 64; (with_reducible refine (rat_sub _ _ (backS TK x k i e) (TK i j * x j) (KS + 2 * (KM + KX)) _ (VS4.out.le (by omega)) (K4.out.le (by omega)) (by omega) (by have := HKB.out; omega)).mono ?_); rintro e w5 ⟨r5, rfl, hr5, hb5⟩; obtain ⟨s5, a5, n5, c5, b5, m5, d5, rfl, K5⟩ := hr5.shape; clear hr5; have HV5 := Lib.hid (HV4.out.trans (hb5.mono HV4.out.size)); clear hb5 xb0 xb1 xb2 xb3 xb4; obtain ⟨xc0, xc1, xc2, xc3, xc4⟩ := keepX.out _ HV5.out)
                go_wp2_with fail
                refine hK.out _ _ ?_ (fun hHeld => ?_)
                · (try dsimp only); exact keepS.out _ HV5.out
                clear hK K
                (try simp only [Act.put, List.setIfInBounds_toArray, List.set_cons_zero, List.set_cons_succ])
                refine wpAnyH_ready (rs := [14]) (by kernel_rfl) (by simp) ?_
                refine AllReadyH.cons rfl (fun K hK => ?_) AllReadyH.nil
                go_simp
                refine hK.out _ _ ?_ (fun hHeld => ?_)
                · (try dsimp only); exact keepT.out _ _ _ _ _ HV5.out _ rfl
                clear hK K
                (try simp only [Act.put, List.setIfInBounds_toArray, List.set_cons_zero, List.set_cons_succ])
                refine wpAnyH_done (by kernel_rfl) ?_ _
                clear xc0 xc1 xc2 xc3 xc4 ixr ixx
                have RM5 := Lib.hid ((RM.out.below HV5.out (Nat.le_refl _)).far (.bool s5) (.slice a5 n5 c5) (.bool false) (.slice b5 m5 d5) (own4_rd (PS.out.below HV5.out PS.out.lt)) HFAR.out.1 HFAR.out.2.1)
                have PX5 := Lib.hid ((PX.out.below HV5.out (Nat.le_refl _)).far4 (.bool s5) (.slice a5 n5 c5) (.bool false) (.slice b5 m5 d5) (own4_rd (PS.out.below HV5.out PS.out.lt)) HFAR.out.2.2.1)
                have PS5 := Lib.hid ((PS.out.below HV5.out PS.out.lt).anew (.bool s5) (.slice a5 n5 c5) (.bool false) (.slice b5 m5 d5))
                have VS5 := Lib.hid ((K5.out.tight HSX.out).at4 (.bool s5) (.slice a5 n5 c5) (.bool false) (.slice b5 m5 d5) (own4_rd (PS.out.below HV5.out PS.out.lt)))
                rw [HBS.out] at VS5
                have KW5 := Lib.hid (below_st4 (o := 0) (KW.out.trans (HV5.out.mono (by have := PS.out.lt; have := HFAR.out.2.2.2.1; omega))) HFAR.out.2.2.2.1 (.bool s5) (.slice a5 n5 c5) (.bool false) (.slice b5 m5 d5))
                clear RM PX PS VS KW keepS keepT keepX HV0 HV1 HV4 HV5 K4 K5 KI1 KV1 VS1 VS4 hHeld PI PV
                go_wp2
                go_roundw
                case rel => exact ⟨j + 1, e + 1, s5, a5, n5, c5, b5, m5, d5, by omega, by go_num, Lib.hid (by have := HJ.out; omega), RM5, PX5, PS5, VS5, KW5⟩
                case measure => simp [intOf]; omega
              ·
                go_simp
                (go_at_call 69; (with_reducible refine (rat_mul _ _ (TK i j) (x j) (KM + KX) _ (KI1.out.le (by omega)) (KV1.out.le (by omega)) (by omega) (by omega)).mono ?_); rintro e w4 ⟨r4, rfl, hr4, hb4⟩; obtain ⟨s4, a4, n4, c4, b4, m4, d4, rfl, K4⟩ := hr4.shape; clear hr4; have HV4 := Lib.hid (HV1.out.trans (hb4.mono HV1.out.size)); have VS4 := Lib.hid (VS1.out.mono hb4 (Nat.le_refl _)); clear hb4 xa0 xa1 xa2 xa3 xa4; obtain ⟨xb0, xb1, xb2, xb3, xb4⟩ := keepX.out _ HV4.out)
                go_wp2_with fail
                refine hK.out _ _ ?_ (fun hHeld => ?_)
                · (try dsimp only); exact keepS.out _ HV4.out
                clear hK K
                (try simp only [Act.put, List.setIfInBounds_toArray, List.set_cons_zero, List.set_cons_succ])
                refine wpAnyH_ready (rs := [0]) (by kernel_rfl) (by simp) ?_
                refine AllReadyH.cons rfl (fun K hK => ?_) AllReadyH.nil
                go_simp
                refine hK.out _ _ ?_ (fun hHeld => ?_)
                · (try dsimp only); exact keepS.out _ HV4.out
                clear hK K
                (try simp only [Act.put, List.setIfInBounds_toArray, List.set_cons_zero, List.set_cons_succ])
                refine wpAnyH_ready (rs := [13]) (by kernel_rfl) (by simp) ?_
                refine AllReadyH.cons rfl (fun K hK => ?_) AllReadyH.nil
                go_simp
                (go_at_call 64; (with_reducible refine (rat_sub _ _ (backS TK x k i e) (TK i j * x j) (KS + 2 * (KM + KX)) _ (VS4.out.le (by omega)) (K4.out.le (by omega)) (by omega) (by have := HKB.out; omega)).mono ?_); rintro e w5 ⟨r5, rfl, hr5, hb5⟩; obtain ⟨s5, a5, n5, c5, b5, m5, d5, rfl, K5⟩ := hr5.shape; clear hr5; have HV5 := Lib.hid (HV4.out.trans (hb5.mono HV4.out.size)); clear hb5 xb0 xb1 xb2 xb3 xb4; obtain ⟨xc0, xc1, xc2, xc3, xc4⟩ := keepX.out _ HV5.out)
                go_wp2_with fail
                refine hK.out _ _ ?_ (fun hHeld => ?_)
                · (try dsimp only); exact keepS.out _ HV5.out
                clear hK K
                (try simp only [Act.put, List.setIfInBounds_toArray, List.set_cons_zero, List.set_cons_succ])
                refine wpAnyH_ready (rs := [14]) (by kernel_rfl) (by simp) ?_
                refine AllReadyH.cons rfl (fun K hK => ?_) AllReadyH.nil
                go_simp
                refine hK.out _ _ ?_ (fun hHeld => ?_)
                · (try dsimp only); exact keepT.out _ _ _ _ _ HV5.out _ rfl
                clear hK K
                (try simp only [Act.put, List.setIfInBounds_toArray, List.set_cons_zero, List.set_cons_succ])
                refine wpAnyH_done (by kernel_rfl) ?_ _
                clear xc0 xc1 xc2 xc3 xc4 ixr ixx
                have RM5 := Lib.hid ((RM.out.below HV5.out (Nat.le_refl _)).far (.bool s5) (.slice a5 n5 c5) (.bool false) (.slice b5 m5 d5) (own4_rd (PS.out.below HV5.out PS.out.lt)) HFAR.out.1 HFAR.out.2.1)
                have PX5 := Lib.hid ((PX.out.below HV5.out (Nat.le_refl _)).far4 (.bool s5) (.slice a5 n5 c5) (.bool false) (.slice b5 m5 d5) (own4_rd (PS.out.below HV5.out PS.out.lt)) HFAR.out.2.2.1)
                have PS5 := Lib.hid ((PS.out.below HV5.out PS.out.lt).anew (.bool s5) (.slice a5 n5 c5) (.bool false) (.slice b5 m5 d5))
                have VS5 := Lib.hid ((K5.out.tight HSX.out).at4 (.bool s5) (.slice a5 n5 c5) (.bool false) (.slice b5 m5 d5) (own4_rd (PS.out.below HV5.out PS.out.lt)))
                rw [HBS.out] at VS5
                have KW5 := Lib.hid (below_st4 (o := 0) (KW.out.trans (HV5.out.mono (by have := PS.out.lt; have := HFAR.out.2.2.2.1; omega))) HFAR.out.2.2.2.1 (.bool s5) (.slice a5 n5 c5) (.bool false) (.slice b5 m5 d5))
                clear RM PX PS VS KW keepS keepT keepX HV0 HV1 HV4 HV5 K4 K5 KI1 KV1 VS1 VS4 hHeld PI PV
                go_wp2
                go_roundw
                case rel => exact ⟨j + 1, e + 1, s5, a5, n5, c5, b5, m5, d5, by omega, by go_num, Lib.hid (by have := HJ.out; omega), RM5, PX5, PS5, VS5, KW5⟩
                case measure => simp [intOf]; omega
            · obtain rfl : k = j := by omega
              have hii : i < m := by omega
              have HXV : Hid (backS TK x k i e / TK i i = x i) := Lib.hid (by
                have h1 := back_div TK x k i hik (fun q => by have := HTP.out i hik; rw [q] at this; exact absurd this Rat.lt_irrefl) (HX2.out i hik)
                have h2 : e = k - (i + 1) := by have := HJ.out; omega
                rw [h2]; exact h1)
              have HPV := Lib.hid (num_pos_of (HTP.out i hik))
              obtain ⟨si, ai, ni, ei, ai2, ni2, ei2, PI, KI⟩ := RM.out.at_ hik hii
              obtain ⟨sx, ax, nx, cx, ax2, nx2, cx2, PV, _⟩ := PX.out.cell i hik
              have PI := Lib.hid PI
              have PV := Lib.hid PV
              have HXF := Lib.hid PX.out.f
              have ixr := fun W => rowIx (rb i) m (rc i) i hii W
              have ixx := fun W => rowIx X k k i hik W
              have keepS : Hid (∀ w', Below wq.heap.size wq w' → w'.cell? ⟨g, i, none⟩ = some (.slice (some ⟨rb i, 0, none⟩) m (rc i)) ∧ w'.cell? ⟨rb i, i * 4, none⟩ = some (.bool si) ∧ w'.cell? ⟨rb i, i * 4 + 1, none⟩ = some (.slice ai ni ei) ∧ w'.cell? ⟨rb i, i * 4 + 2, none⟩ = some (.bool false) ∧ w'.cell? ⟨rb i, i * 4 + 3, none⟩ = some (.slice ai2 ni2 ei2) ∧
                w'.cell? ⟨Sb, 0, none⟩ = some (.bool s) ∧ w'.cell? ⟨Sb, 1, none⟩ = some (.slice a n cc) ∧ w'.cell? ⟨Sb, 2, none⟩ = some (.bool false) ∧ w'.cell? ⟨Sb, 3, none⟩ = some (.slice a2 n2 c2)) :=
                Lib.hid (fun w' hb => ⟨bel1 hb (RM.out.hdr i hik) RM.out.gl, bel1 hb PI.out.c0 PI.out.lt, bel1 hb PI.out.c1 PI.out.lt, bel1 hb PI.out.c2 PI.out.lt, bel1 hb PI.out.c3 PI.out.lt,
                  bel1 hb PS.out.c0 PS.out.lt, bel1 hb PS.out.c1 PS.out.lt, bel1 hb PS.out.c2 PS.out.lt, bel1 hb PS.out.c3 PS.out.lt⟩)
              have keepT : Hid (∀ W u0 u1 u2 u3, Below wq.heap.size wq W → ∀ w', w' = st4 W X (i * 4) u0 u1 u2 u3 → w'.cell? ⟨g, i, none⟩ = some (.slice (some ⟨rb i, 0, none⟩) m (rc i)) ∧ w'.cell? ⟨rb i, i * 4, none⟩ = some (.bool si) ∧ w'.cell? ⟨rb i, i * 4 + 1, none⟩ = some (.slice ai ni ei) ∧ w'.cell? ⟨rb i, i * 4 + 2, none⟩ = some (.bool false) ∧ w'.cell? ⟨rb i, i * 4 + 3, none⟩ = some (.slice ai2 ni2 ei2) ∧
                w'.cell? ⟨Sb, 0, none⟩ = some (.bool s) ∧ w'.cell? ⟨Sb, 1, none⟩ = some (.slice a n cc) ∧ w'.cell? ⟨Sb, 2, none⟩ = some (.bool false) ∧ w'.cell? ⟨Sb, 3, none⟩ = some (.slice a2 n2 c2)) :=
                Lib.hid (fun W u0 u1 u2 u3 hb w' e => by
                  subst e
                  obtain ⟨f0, f1, f2, f3, f4, f5, f6, f7, f8⟩ := keepS.out W hb
                  have q1 := HFAR.out.2.2.2.2.1
                  have q2 := HFAR.out.2.2.2.2.2 i hik
                  have q3 : X ≠ Sb := fun q => HFAR.out.2.2.1 q.symm
                  exact ⟨(far4 _ _ _ _ q1).trans f0, (far4 _ _ _ _ q2).trans f1, (far4 _ _ _ _ q2).trans f2, (far4 _ _ _ _ q2).trans f3, (far4 _ _ _ _ q2).trans f4,
                    (far4 _ _ _ _ q3).trans f5, (far4 _ _ _ _ q3).trans f6, (far4 _ _ _ _ q3).trans f7, (far4 _ _ _ _ q3).trans f8⟩)
              have keepV : Hid (∀ w', Below wq.heap.size wq w' → w'.cell? ⟨X, i * 4, none⟩ = some (.bool sx) ∧ w'.cell? ⟨X, i * 4 + 1, none⟩ = some (.slice ax nx cx) ∧ w'.cell? ⟨X, i * 4 + 2, none⟩ = some (.bool false) ∧ w'.cell? ⟨X, i * 4 + 3, none⟩ = some (.slice ax2 nx2 cx2) ∧ ∀ o, w'.frozen? ⟨X, o, none⟩ = false) :=
                Lib.hid (fun w' hb => ⟨bel1 hb PV.out.c0 PV.out.lt, bel1 hb PV.out.c1 PV.out.lt, bel1 hb PV.out.c2 PV.out.lt, bel1 hb PV.out.c3 PV.out.lt, fun o => (hb.frozen (p := ⟨X, o, none⟩) PV.out.lt).trans (HXF.out o)⟩)
              go_upto_region 17 with (fail)
              have HV0 := Lib.hid (Below.refl wq.heap.size wq)
              have HV1 := Lib.hid (Below.refl wq.heap.size wq).drew
              have KI1 := Lib.hid (KI.mono HV1.out (Nat.le_refl _))
              have VS1 := Lib.hid (VS.out.mono HV1.out (Nat.le_refl _))
              clear KI
              go_region_held3 (fun w' => w'.cell? ⟨g, i, none⟩ = some (.slice (some ⟨rb i, 0, none⟩) m (rc i)) ∧ w'.cell? ⟨rb i, i * 4, none⟩ = some (.bool si) ∧ w'.cell? ⟨rb i, i * 4 + 1, none⟩ = some (.slice ai ni ei) ∧ w'.cell? ⟨rb i, i * 4 + 2, none⟩ = some (.bool false) ∧ w'.cell? ⟨rb i, i * 4 + 3, none⟩ = some (.slice ai2 ni2 ei2) ∧
                w'.cell? ⟨Sb, 0, none⟩ = some (.bool s) ∧ w'.cell? ⟨Sb, 1, none⟩ = some (.slice a n cc) ∧ w'.cell? ⟨Sb, 2, none⟩ = some (.bool false) ∧ w'.cell? ⟨Sb, 3, none⟩ = some (.slice a2 n2 c2))
                (first | (with_reducible exact keepS.out _ HV0.out) | (with_reducible exact keepS.out _ HV1.out) | (with_reducible exact keepS.out _ HV5.out) | (exact keepT.out _ _ _ _ _ HV5.out _ rfl))
                (first
                | (go_at_call 72; (with_reducible refine (rat_div _ _ (backS TK x k i e) (TK i i) KS _ VS1.out (KI1.out.le HKB.out.1) HPV.out (by have := HKB.out; omega) (by have := HKB.out; omega)).mono ?_); rintro ex w5 ⟨r5, rfl, hr5, hb5⟩; obtain ⟨s5, a5, n5, c5, b5, m5, d5, rfl, K5⟩ := hr5.shape; clear hr5; have HV5 := Lib.hid (HV1.out.trans (hb5.mono HV1.out.size)); clear hb5; obtain ⟨xc0, xc1, xc2, xc3, xc4⟩ := keepV.out _ HV5.out))
              all_goals
                rw [HXV.out] at K5
                have RM5 := Lib.hid ((RM.out.below HV5.out (Nat.le_refl _)).far (.bool s5) (.slice a5 n5 c5) (.bool false) (.slice b5 m5 d5) (PV.out.below HV5.out PV.out.lt) HFAR.out.2.2.2.2.1 HFAR.out.2.2.2.2.2)
                have PX5 := Lib.hid (((PX.out.below HV5.out (Nat.le_refl _)).set (i := i) (o := i * 4) hik rfl (K5.out.tight (HXS.out i hik))).congr (P' := fun j => i ≤ j) (q' := x) (fun j hj hp => by
                  by_cases ej : j = i
                  · exact ⟨.inl ej, by rw [ej]; simp [updQ]⟩
                  · exact ⟨.inr (by omega), by simp [updQ, ej]⟩))
                have KW5 := Lib.hid (below_st4 (o := i * 4) (KW.out.trans (HV5.out.mono (by have := PS.out.lt; have := HFAR.out.2.2.2.1; omega))) HBX.out (.bool s5) (.slice a5 n5 c5) (.bool false) (.slice b5 m5 d5))
                clear RM PX PS VS KW keepS keepT keepV HV0 HV1 HV5 K5 KI1 VS1 PI PV xc0 xc1 xc2 xc3 xc4 ixr ixx
                go_wp2
                go_roundw
                case rel => exact ⟨i, by omega, by first | rfl | go_num, RM5, PX5, KW5⟩
                case measure => simp [intOf]
        · obtain rfl : d = 0 := by omega
          have hz : decide ((0 : Int) ≤ ((0 : Nat) : Int) - 1) = false := by decide
          go_wp2
          go_ret
          exact ⟨X, rfl, PX.out.congr (fun j hj _ => ⟨Nat.zero_le _, rfl⟩), HS.out, KW.out⟩
end Go.Proofs.YtolkchkedieppaaGreat
