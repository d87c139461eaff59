/- The reference's numbers: what a round of DivMod holds. -/
import Derived.Test.YtolkchkedieppaaGreatZBig12
import Derived.OwnWalk
set_option linter.unusedVariables false
set_option linter.unusedSimpArgs false
namespace Go.Proofs.YtolkchkedieppaaGreat
open Go.RowKit
/-- a row of integers put behind a row of one's own, whether it has a place or not -/
theorem wpList_append_ints {P : Program} {w : World} {ops : Array Oper} {rest : List Oper} {o : Oper} {a : Act} {Q : Exit → Act → World → Prop} (hgd : o.guard = none) (s x : Operand) (t : TypeId)
    (ho : o.op = .call { callee := .builtin .append, args := #[s, x], argTypes := #[t, t] })
    (base : Nat) (e : TypeId) (i : TypeInfo) (ht : P.underlying t = some (.slice e)) (hi : P.info? e = some i) (hz : i.zero = some (.int .i64 0)) (hsize : i.size = 1) (hby : i.bytes = 8)
    (v : Value) (n : Nat) (xs : List Value) (hs : a.eval s = v) (hown : w.ownsRow base e 1 v n xs)
    (sa : Option Addr) (b o' c m : Nat) (f : Nat → Int) (hx : a.eval x = .slice sa m c) (hsl : IsSl w sa b o' c m (ic f))
    (h63 : n + m ≤ maxLen) (hbytes : (n + m) * 8 ≤ 140737488355328) (hbase : base ≤ w.heap.size)
    (h : ∀ v' w', w'.ownsRow base e 1 v' (n + m) (xs ++ ics f m) → w.grownBy w' v.ownBlock → wpList P ops Q rest (a.put o.dst v') w') : wpList P ops Q (o :: rest) a w := by
  rcases Nat.eq_zero_or_pos m with hm | hm
  · subst hm
    rcases sa with _ | ad
    · obtain rfl := hsl.nc rfl
      refine wpList_append_own_none hgd s x t ho base e i 1 ht hi v n xs hs hown hx ?_
      exact h v w (by simpa [ics] using hown) (World.grownBy.refl _ _)
    · exact wpList_append_own w hgd s x t ho base e i (.int .i64 0) 1 8 ht hi hz hsize hby rfl (by decide) v n xs hs hown ad 0 c [] hx rfl (fun j u h => by simp at h) (fun u h => by simp at h) h63 hbytes hbase (fun v' w' h1 h2 _ => h v' w' (by simpa [ics] using h1) h2)
  · obtain rfl := hsl.at_ hm
    exact wpList_append_own w hgd s x t ho base e i (.int .i64 0) 1 8 ht hi hz hsize hby rfl (by decide) v n xs hs hown ⟨b, o', none⟩ m c (ics f m) hx (by rw [ics_length]; omega) (news_of hsl m (Nat.le_refl _)) (ics_one f m) h63 hbytes hbase (fun v' w' h1 h2 _ => h v' w' h1 h2)
theorem ownsRow_lit {e : TypeId} {base : Nat} (w : World) (u : Value) (hb : base ≤ w.heap.size) : (w.alloc (.cells #[u] e)).ownsRow base e 1 (.slice (some ⟨w.heap.size, 0, none⟩) 1 1) 1 [u] :=
  ⟨by simp, .inr ⟨w.heap.size, 1, #[u], rfl, hb, heap_alloc_new w _, Nat.le_refl _, by unfold maxLen; omega, rfl, by simp⟩⟩
structure DivS (w0 w : World) (s t : Bool) (sx sy : Value) (N : Nat) (qf : Nat → Nat) : Prop where
  oa : Own2 w w0.heap.size (.bool s) sx
  ob : Own2 w (w0.heap.size + 1) (.bool t) sy
  o0 : Own2 w (w0.heap.size + 1 + 1) (.bool false) (.slice none 0 0)
  o1 : Own2 w (w0.heap.size + 1 + 1 + 1) (.bool false) (.slice none 0 0)
  row : w.rowIs (w0.heap.size + 1 + 1 + 1 + 1) 3 N (ic (dI qf))
  kw : Below w0.heap.size w0 w
theorem DivS.sz {w0 w : World} {s t : Bool} {sx sy : Value} {N : Nat} {qf : Nat → Nat} (h : DivS w0 w s t sx sy N qf) : w0.heap.size + 5 ≤ w.heap.size := h.row.lt
theorem DivS.below {w0 w w' : World} {s t : Bool} {sx sy : Value} {N : Nat} {qf : Nat → Nat} (h : DivS w0 w s t sx sy N qf) (hb : Below w.heap.size w w') : DivS w0 w' s t sx sy N qf :=
  ⟨h.oa.below hb h.oa.lt, h.ob.below hb h.ob.lt, h.o0.below hb h.o0.lt, h.o1.below hb h.o1.lt, rowIs_below h.row hb h.row.lt, h.kw.trans (hb.mono h.kw.size)⟩
theorem DivS.set {w0 w : World} {s t : Bool} {sx sy : Value} {N : Nat} {qf : Nat → Nat} (h : DivS w0 w s t sx sy N qf) (j d : Nat) : DivS w0 (w.setCell ⟨w0.heap.size + 1 + 1 + 1 + 1, j, none⟩ (.int .i64 ((d : Nat) : Int))) s t sx sy N (setN qf j d) :=
  ⟨h.oa.setCell _ _ _ (by omega), h.ob.setCell _ _ _ (by omega), h.o0.setCell _ _ _ (by omega), h.o1.setCell _ _ _ (by omega),
   (h.row.set j _).congr (fun i hi => by
    by_cases e : i = j
    · subst e; simp [ic, dI, setN, upd]
    · simp [ic, dI, setN, upd, e]), h.kw.setCell (by dsimp only; omega) _⟩
/-- lean's answer lies above what the world held -/
theorem lean_far (u : Value) (s : Bool) (n : Nat) (f : Nat → Nat) (x : Nat) (w : World) (hu : Raw w u n f) (hf : ∀ i, i < n → f i < 10000) (hx : valD f n = x) (hn : n ≤ 1099511627776) :
    Calls Tryz.prog 153 #[.agg #[.bool s, u]] w fun e w' => ∃ a c, e = .returned (.agg #[.bool (s && decide (0 < x)), .slice a (nd x) c]) ∧ Dg w' (.slice a (nd x) c) x ∧ (∀ k, (Value.slice a (nd x) c).ownBlock = some k → w.heap.size ≤ k) ∧ Below w.heap.size w w' := by
  subst hx
  refine (lean_own u s n f w hu hf hn).mono ?_
  rintro e w' ⟨u', rfl, h1, h2, h3⟩
  obtain ⟨a, b, o, c, rfl, hs⟩ := h1
  exact ⟨a, c, rfl, ⟨a, b, o, c, rfl, hs⟩, h2, h3⟩
/-- a store below digits leaves them as they are -/
theorem Dg.store_far {w : World} {a : Option Addr} {n c x b B : Nat} (h : Dg w (.slice a n c) x) (hf : ∀ k, (Value.slice a n c).ownBlock = some k → B ≤ k) (hb : b < B) (o : Nat) (v : Value) : Dg (w.setCell ⟨b, o, none⟩ v) (.slice a n c) x := by
  obtain ⟨a', b', o', c', he, hs⟩ := h
  refine ⟨a', b', o', c', he, hs.cap, hs.at_, fun hn => by simp only [World.setCell, Array.size_modify]; exact hs.lt hn, fun i hi => ?_, hs.nc⟩
  have e1 := hs.at_ (by omega)
  injection he with e2 e3 e4
  subst e1
  have := hf b' (by rw [e2]; rfl)
  exact (far_set w b o b' _ v (by omega)).trans (hs.cell i hi)
end Go.Proofs.YtolkchkedieppaaGreat

/- The reference's numbers: the walk of DivMod. -/
namespace Go.Proofs.YtolkchkedieppaaGreat
open Go.RowKit
attribute [local go_sem ↓] Go.wp_at_zero Go.wp_at_succ
attribute [local go_sem] Go.Instr.field Go.asAgg
/-- two answers stored into their boxes: numbers are kept -/
theorem zs_fin {w7 : World} {b0 b1 m : Nat} {v : Value} {z : Int} (o0 : Own2 w7 b0 (.bool false) (.slice none 0 0)) (o1 : Own2 w7 b1 (.bool false) (.slice none 0 0)) (hne : b0 ≠ b1) (h : ZIs w7 v z m) (u0 u1 u2 u3 : Value) :
    ZIs ((((w7.setCell ⟨b0, 0, none⟩ u0).setCell ⟨b0, 1, none⟩ u1).setCell ⟨b1, 0, none⟩ u2).setCell ⟨b1, 1, none⟩ u3).drew v z m :=
  have h1 := h.store2 u0 u1 o0.c0 o0.c1 (noInt_bool _) (noInt_slice _ _ _)
  have q := (o1.setCell b0 0 u0 hne).setCell b0 1 u1 hne
  (h1.store2 u2 u3 q.c0 q.c1 (noInt_bool _) (noInt_slice _ _ _)).drawn (Drawn.of _ 1)
theorem below_fin {w0 w7 : World} {B b0 b1 : Nat} (h : Below B w0 w7) (h0 : B ≤ b0) (h1 : B ≤ b1) (u0 u1 u2 u3 : Value) :
    Below B w0 ((((w7.setCell ⟨b0, 0, none⟩ u0).setCell ⟨b0, 1, none⟩ u1).setCell ⟨b1, 0, none⟩ u2).setCell ⟨b1, 1, none⟩ u3).drew :=
  ((((h.setCell (by dsimp only; omega) _).setCell (by dsimp only; omega) _).setCell (by dsimp only; omega) _).setCell (by dsimp only; omega) _).trans ((Drawn.of _ 1).below _)
/-- the floor division of a number below 0, the rest of whose size is 0, or not -/
theorem divmod_neg0 (x y : Nat) (hy : 0 < y) (h : x % y = 0) : sgn true x / (y : Int) = sgn true (x / y) ∧ sgn true x % (y : Int) = 0 := by
  have e := Nat.div_add_mod x y
  have hx : x = y * (x / y) := by omega
  have hs : sgn true x = (y : Int) * sgn true (x / y) := by
    have h2 : (x : Int) = (y : Int) * ((x / y : Nat) : Int) := by
      conv => lhs; rw [hx]
      exact Int.natCast_mul _ _
    simp only [sgn, if_true]
    rw [h2, Int.mul_neg]
  rw [hs]
  exact ⟨Int.mul_ediv_cancel_left _ (by omega), Int.mul_emod_right _ _⟩
theorem raw_cons {w : World} {B R d : Nat} {v' : Value} (h : w.ownsRow B 3 1 v' (1 + nd R) ([.int .i64 ((d : Nat) : Int)] ++ ics (dI (dg R)) (nd R))) : (∃ a c, v' = .slice a (nd R + 1) c) ∧ Raw w v' (nd R + 1) (consN d (dg R)) := by
  rw [Nat.add_comm, List.singleton_append, ics_cons] at h
  exact ⟨own_shape h, ints_of_own h⟩
set_option maxHeartbeats 3000000 in
set_option maxRecDepth 100000 in
theorem bdivmod_dg (u v : Value) (s : Bool) (x y : Nat) (w : World) (hu : Dg w u x) (hv : Dg w v y) (hy : 0 < y) (hs : s = false ∨ x % y = 0) (bx : nd x ≤ 274877906944) (b_y : nd y ≤ 274877906944) :
    Calls Tryz.prog 127 #[.agg #[.bool s, u], .agg #[.bool false, v]] w fun e w' => ∃ q r, e = .returned (.tuple #[q, r]) ∧ ZIs w' q (sgn s x / (y : Int)) (nd x + 1) ∧ ZIs w' r (sgn s x % (y : Int)) (nd y + 1) ∧ Below w.heap.size w w' := by
  obtain ⟨a1, b1, o1, c1', rfl, s1⟩ := hu
  have HVW := Lib.hid hv
  obtain ⟨a2, b2, o2, c2', rfl, s2⟩ := hv
  have S1 := Lib.hid s1
  obtain ⟨i0, hinf, hz0, hz1, hz2⟩ := info_parts infoI
  obtain ⟨N, hN⟩ : ∃ N, N = nd x := ⟨_, rfl⟩
  have hmk := run_make_row' (P := Tryz.prog) 22 3 (.int .i64 0) 8 Tryz.underlying22 infoI rfl .i64 .i64 N (by omega) (by omega)
  have HYP := Lib.hid hy
  have HS := Lib.hid hs
  clear hs
  have DS0 : Hid (DivS w ((((((w.alloc (.cells #[.bool s, .slice a1 N c1'] 57)).alloc (.cells #[.bool false, .slice a2 (nd y) c2'] 57)).alloc (.cells #[.bool false, .slice none 0 0] 57)).alloc (.cells #[.bool false, .slice none 0 0] 57)).alloc (.cells (madeCells #[.int .i64 0] N) 3)).alloc (.cells #[] 3)) s false (.slice a1 N c1') (.slice a2 (nd y) c2') N (fun _ => 0)) := Lib.hid (by
    have hr := World.rowIs_made ((((w.alloc (.cells #[.bool s, .slice a1 N c1'] 57)).alloc (.cells #[.bool false, .slice a2 (nd y) c2'] 57)).alloc (.cells #[.bool false, .slice none 0 0] 57)).alloc (.cells #[.bool false, .slice none 0 0] 57)) (.int .i64 0) N 3
    simp only [World.size_alloc] at hr
    have hkw := (((boxes3 w (Obj.cells #[.bool s, .slice a1 N c1'] 57) (Obj.cells #[.bool false, .slice a2 (nd y) c2'] 57) (Obj.cells #[.bool false, .slice none 0 0] 57)).alloc (by simp; omega) (.cells #[.bool false, .slice none 0 0] 57)).alloc (by simp; omega) (.cells (madeCells #[.int .i64 0] N) 3)).alloc (by simp; omega) (.cells #[] 3)
    exact ⟨(((((own2_new w _ rfl _ _ _).alloc _).alloc _).alloc _).alloc _).alloc _, ((((own2_new _ _ (by simp) _ _ _).alloc _).alloc _).alloc _).alloc _, (((own2_new _ _ (by simp) _ _ _).alloc _).alloc _).alloc _, ((own2_new _ _ (by simp) _ _ _).alloc _).alloc _, rowIs_below hr ((Below.refl _ _).alloc (Nat.le_refl _) _) (by simp), hkw⟩)
  have DG0 : Hid (∀ W : World, Dg W (.slice (some ⟨w.heap.size + 1 + 1 + 1 + 1 + 1, 0, none⟩) 0 0) 0) := Lib.hid (fun W =>
    ⟨some ⟨w.heap.size + 1 + 1 + 1 + 1 + 1, 0, none⟩, 0, 0, 0, by rw [nd_zero], ⟨by rw [nd_zero]; omega, fun h => by rw [nd_zero] at h; omega, fun h => by rw [nd_zero] at h; omega, fun i h => by rw [nd_zero] at h; omega, fun e => by cases e⟩⟩)
  have hNb : N ≤ 274877906944 := by omega
  rw [← hN] at S1 ⊢
  have HN := Lib.hid hN
  clear s1 s2 hy hN
  go_enter Tryz.func127, Tryz.ntmps127
  go_wp2_with fail
  generalize World.alloc _ _ = w4 at DS0 ⊢
  clear hmk
  go_loopw [7, 8, 9, 10, 11] (fun v7 v8 _ _ _ wr => ∃ j : Nat, j ≤ N ∧ v8 = .int .i64 ((j : Int) - 1) ∧ ∃ R a7 c7 qf, v7 = .slice a7 (nd R) c7 ∧ Hid (R = x / 10000 ^ j % y) ∧ Hid (Dg wr (.slice a7 (nd R) c7) R) ∧ Hid (∀ k, (Value.slice a7 (nd R) c7).ownBlock = some k → w.heap.size + 1 + 1 + 1 + 1 + 1 ≤ k) ∧ Hid (DivI x y j qf) ∧ Hid (DivS w wr s false (.slice a1 N c1') (.slice a2 (nd y) c2') N qf)) (fun _ v8 _ _ _ _ => (intOf v8 + 1).toNat)
  case atStart => exact ⟨N, Nat.le_refl _, rfl, 0, some ⟨w.heap.size + 1 + 1 + 1 + 1 + 1, 0, none⟩, 0, fun _ => 0, by rw [nd_zero], Lib.hid (by
    have h1 : x / 10000 ^ N = 0 := Nat.div_eq_of_lt (by rw [HN.out]; exact lt_pow_nd x)
    rw [h1, Nat.zero_mod]), Lib.hid (by rw [nd_zero]; exact DG0.out _), Lib.hid (fun k e => by cases e; exact Nat.le_refl _), Lib.hid (by rw [HN.out]; exact DivI.start x y HYP.out), DS0⟩
  case round =>
    clear DS0 DG0
    obtain ⟨j, hj, rfl, R, a7, c7, qf, rfl, HR, HDG, HFR, HQ, DS⟩ := hrel
    by_cases h0 : 0 < j
    · obtain ⟨i, rfl⟩ : ∃ i, j = i + 1 := ⟨j - 1, by omega⟩
      have hiN : i < N := by omega
      have e0 : ((i + 1 : Nat) : Int) - 1 = (i : Int) := by omega
      rw [e0]
      clear e0 h0 hj
      have hRy : Hid (R < y) := Lib.hid (by rw [HR.out]; exact Nat.mod_lt _ HYP.out)
      have hRn : nd R ≤ 274877906944 := Nat.le_trans (nd_mono (Nat.le_of_lt hRy.out)) b_y
      obtain ⟨a7', b7, o7, c7', he7, hs7⟩ := HDG.out
      injection he7 with e71 e72 e73
      subst e71 e73
      have HS7 := Lib.hid hs7
      clear hs7 e72
      have p1 := DS.out.oa.c1
      have pb1 := DS.out.ob.c1
      have ix1 := fun W => ixI S1.out i c1' hiN W
      have cl1 := (S1.out.mono DS.out.kw (Nat.le_refl _)).cell i hiN
      simp only [ic, dI] at cl1
      have g0 : decide ((0 : Int) ≤ (i : Int)) = true := by simp
      obtain ⟨d, hd⟩ : ∃ d, d = dg x i := ⟨_, rfl⟩
      rw [← hd] at cl1
      obtain ⟨R2, hR2⟩ : ∃ R2, R2 = R * 10000 + d := ⟨_, rfl⟩
      have hstep := divD_step x y i HYP.out
      rw [← HR.out, ← hd, ← hR2] at hstep
      have HST := Lib.hid hstep
      have HVAL : Hid (valD (consN d (dg R)) (nd R + 1) = R2) := Lib.hid (by rw [valD_cons, valD_nd, hR2]; omega)
      have HLT : Hid (∀ k, k < nd R + 1 → consN d (dg R) k < 10000) := Lib.hid (fun k _ => cons_lt (by rw [hd]; exact dg_lt x i) (dg_lt R) k)
      have HR2 : Hid (nd R2 ≤ nd y + 2 ∧ R2 < y * 10000) := Lib.hid (by
        have h1 := hRy.out
        have h2 : d < 10000 := by rw [hd]; exact dg_lt x i
        have h3 : (R + 1) * 10000 ≤ y * 10000 := Nat.mul_le_mul_right _ h1
        have h4 : R2 < y * 10000 := by omega
        exact ⟨Nat.le_trans (nd_mono (Nat.le_of_lt h4)) (nd_mul _ _ _ _ (Nat.le_refl _) (by rw [nd_le]; omega)), h4⟩)
      have DS0 := DS
      clear hd hR2 hstep
      go_wp2_with (first | (at_builtin; refine wpList_append_ints rfl (.tmp 32) (.tmp 33) 22 rfl wr.heap.size 3 i0 Tryz.underlying22 hinf hz0 hz1 hz2 (.slice (some ⟨wr.heap.size, 0, none⟩) 1 1) 1 [.int .i64 ((d : Nat) : Int)] rfl (ownsRow_lit wr _ (Nat.le_refl _)) a7 b7 o7 c7 (nd R) (dI (dg R)) rfl (HS7.out.alloc _) (by unfold maxLen; omega) (by omega) (by simp) ?_; intro v' w5 hown hgrow; have HB5 := Lib.hid (((Below.refl wr.heap.size wr).alloc (Nat.le_refl _) (.cells #[.int .i64 ((d : Nat) : Int)] 3)).grown hgrow (by simp) (fun kk e => by cases e; exact Nat.le_refl _)); obtain ⟨⟨a5, c5, rfl⟩, hraw⟩ := raw_cons hown; have HRAW := Lib.hid hraw; clear hown hgrow hraw) | (go_at_call 153; refine (lean_far _ false (nd R + 1) (consN d (dg R)) R2 _ HRAW.out HLT.out HVAL.out (by omega)).mono ?_; rintro e w6 ⟨a6, c6, rfl, hm6, hf6, hb6⟩; have DS := Lib.hid (DS.out.below (HB5.out.trans (hb6.mono HB5.out.size))); have HDG := Lib.hid hm6; have HFR := Lib.hid (fun k ek => Nat.le_trans (Nat.le_trans (show w.heap.size + 1 + 1 + 1 + 1 + 1 ≤ wr.heap.size from DS0.out.sz) HB5.out.size) (hf6 k ek)); clear hm6 hf6 hb6 p1 pb1))
      clear HS7 HRAW HB5 DS0
      go_loopw [9, 10, 11] (fun v9 v10 _ wr => ∃ l h : Nat, v9 = .int .i64 (l : Nat) ∧ v10 = .int .i64 (h : Nat) ∧ l < h ∧ h ≤ 10000 ∧ Hid (y * l ≤ R2) ∧ Hid (R2 < y * h) ∧ Hid (Dg wr (.slice a6 (nd R2) c6) R2) ∧ Hid (DivS w wr s false (.slice a1 N c1') (.slice a2 (nd y) c2') N qf)) (fun v9 v10 _ _ => (intOf v10 - intOf v9).toNat)
      case atStart => exact ⟨0, 10000, rfl, rfl, by omega, by omega, Lib.hid (by simp), Lib.hid HR2.out.2, HDG, DS⟩
      case round =>
        clear HDG DS
        obtain ⟨l, h, rfl, rfl, hlh, hh, HL, HH, HDG, DS⟩ := hrel
        have pb1 := DS.out.ob.c1
        by_cases cc : l + 1 < h
        · have d1 : decide ((1 : Int) < (h : Int) - (l : Int)) = true := by simp; omega
          obtain ⟨m, hm⟩ : ∃ m, m = (l + h) / 2 := ⟨_, rfl⟩
          have hm1 : l < m ∧ m < h := by omega
          obtain ⟨hm2, hm3⟩ := hm1
          have hmi : ((l : Int) + (h : Int)) / 2 = (m : Int) := by omega
          have HVN := Lib.hid (HVW.out.mono DS.out.kw (Nat.le_refl _))
          have hnm : nd (y * m) ≤ nd y + 2 := nd_mul _ _ _ _ (Nat.le_refl _) (by rw [nd_le]; omega)
          clear hm cc
          by_cases q : y * m ≤ R2
          · have d2 : decide (cmpN (y * m) R2 ≤ 0) = true := by unfold cmpN; split <;> (try split) <;> simp <;> omega
            have HQ2 := Lib.hid q
            clear q
            go_wp2_with (first | (go_at_call 155; refine (btimes_any _ y m _ HVN.out (by omega) (by omega)).mono ?_; rintro e w7 ⟨at7, ct7, rfl, hr7, hb7⟩; have HDG := Lib.hid (HDG.out.mono hb7 (Nat.le_refl _)); have DS := Lib.hid (DS.out.below hb7)) | (go_at_call 154; refine (sizes_any _ _ (y * m) R2 _ hr7 HDG.out (by omega) (by have := HR2.out.1; omega)).mono ?_; rintro e w8 ⟨rfl, hd8⟩; have HDG := Lib.hid (HDG.out.drawn hd8); have DS := Lib.hid (DS.out.below (hd8.below _)); clear hr7 hb7 hd8))
            go_roundw
            case rel => exact ⟨m, h, rfl, rfl, by omega, by omega, HQ2, HH, HDG, DS⟩
            case measure => simp [intOf]; omega
          · have d2 : decide (cmpN (y * m) R2 ≤ 0) = false := by unfold cmpN; split <;> (try split) <;> simp <;> omega
            have HQ2 := Lib.hid (show R2 < y * m by omega)
            clear q
            go_wp2_with (first | (go_at_call 155; refine (btimes_any _ y m _ HVN.out (by omega) (by omega)).mono ?_; rintro e w7 ⟨at7, ct7, rfl, hr7, hb7⟩; have HDG := Lib.hid (HDG.out.mono hb7 (Nat.le_refl _)); have DS := Lib.hid (DS.out.below hb7)) | (go_at_call 154; refine (sizes_any _ _ (y * m) R2 _ hr7 HDG.out (by omega) (by have := HR2.out.1; omega)).mono ?_; rintro e w8 ⟨rfl, hd8⟩; have HDG := Lib.hid (HDG.out.drawn hd8); have DS := Lib.hid (DS.out.below (hd8.below _)); clear hr7 hb7 hd8))
            go_roundw
            case rel => exact ⟨l, m, rfl, rfl, by omega, by omega, HL, HQ2, HDG, DS⟩
            case measure => simp [intOf]; omega
        · have hl1 : h = l + 1 := by omega
          have d1 : decide ((1 : Int) < (h : Int) - (l : Int)) = false := by simp; omega
          obtain ⟨hdn1, hdn2⟩ := search_done HYP.out HL.out (by rw [← hl1]; exact HH.out)
          have hdq : l = dg (x / y) i := by rw [hdn1]; exact HST.out.1
          have hdr : R2 - y * l = x / 10000 ^ i % y := by rw [hdn2]; exact HST.out.2
          have HDR := Lib.hid hdr
          have HQ2 := Lib.hid (HQ.out.step hdq)
          have HLE := Lib.hid HL.out
          have hl9 : l ≤ 10000 := by omega
          have bx := fun W => ixI (rowIs_sl DS.out.row) i N hiN W
          have bc := DS.out.row.cell hiN
          have bf := DS.out.row.frozen i
          simp only [Nat.zero_add, ic, dI] at bx bc
          have DS2 := Lib.hid (DS.out.set i l)
          have DG2 := Lib.hid (HDG.out.store_far HFR.out (b := w.heap.size + 1 + 1 + 1 + 1) (by omega) i (.int .i64 ((l : Nat) : Int)))
          have hnl : nd (y * l) ≤ nd y + 2 := nd_mul _ _ _ _ (Nat.le_refl _) (by rw [nd_le]; omega)
          have hn2 : nd R2 ≤ nd y + 2 := HR2.out.1
          clear hl1 hdn1 hdn2 hdq hdr cc HDG DS HQ HL HH
          go_upto_region 13 with (fail)
          clear bx bc bf d1 pb1
          generalize World.setCell _ _ _ = w8 at DS2 DG2 ⊢
          have pb1 := DS2.out.ob.c1
          have HVN := Lib.hid (HVW.out.mono DS2.out.kw (Nat.le_refl _))
          go_wp2_with (first | (go_at_call 155; refine (btimes_any _ y l _ HVN.out (by omega) (by omega)).mono ?_; rintro e w9 ⟨at9, ct9, rfl, hr9, hb9⟩; have DG2 := Lib.hid (DG2.out.mono hb9 (Nat.le_refl _)); have DS2 := Lib.hid (DS2.out.below hb9)) | (go_at_call 156; refine (bless_any _ _ R2 (y * l) _ DG2.out hr9 HLE.out (by omega)).mono ?_; rintro e w10 ⟨r10, f10, rfl, hr10, hf10, hv10, hb10⟩; have DS2 := Lib.hid (DS2.out.below hb10); obtain ⟨a10, b10, o10, c10, rfl, hs10⟩ := hr10) | (go_at_call 153; refine (lean_far _ false (nd R2) f10 (R2 - y * l) _ ⟨a10, b10, o10, c10, rfl, hs10⟩ hf10 hv10 (by omega)).mono ?_; rintro e w11 ⟨a11, c11, rfl, hm11, hf11, hb11⟩; have DS3 := Lib.hid (DS2.out.below hb11); have HF3 := Lib.hid (fun k ek => Nat.le_trans (show w.heap.size + 1 + 1 + 1 + 1 + 1 ≤ w10.heap.size from DS2.out.sz) (hf11 k ek)); have DG3 := Lib.hid hm11; clear hm11 hf11 hb11 pb1))
          go_roundw
          case rel => exact ⟨i, by omega, by go_num, R2 - y * l, a11, c11, _, rfl, HDR, DG3, HF3, HQ2, DS3⟩
          case measure => simp [intOf]
    · obtain rfl : j = 0 := by omega
      have hr0 : R = x % y := by have := HR.out; simpa using this
      have HQV : Hid (valD qf N = x / y) := Lib.hid (by rw [HN.out]; exact HQ.out.val)
      have HQL : Hid (∀ k, k < N → qf k < 10000) := Lib.hid (fun k _ => HQ.out.lt k)
      have HRQ : Hid (Raw wr (.slice (some ⟨w.heap.size + 1 + 1 + 1 + 1, 0, none⟩) N N) N qf) := Lib.hid ⟨_, _, _, _, rfl, rowIs_sl DS.out.row⟩
      have hRy : R < y := by rw [hr0]; exact Nat.mod_lt _ HYP.out
      have hRn : nd R ≤ nd y := nd_mono (Nat.le_of_lt hRy)
      have HR0 := Lib.hid hr0
      have pa0 := DS.out.oa.c0
      have pa1 := DS.out.oa.c1
      clear hr0 HR hj h0 hRy
      cases s with
      | false =>
        go_wp2_with (first | (go_at_call 153; first | (have HRQ1 := HRQ.out; clear HRQ; refine (lean_far _ false N qf (x / y) _ HRQ1 HQL.out HQV.out (by omega)).mono ?_; rintro e w5 ⟨a5, c5, rfl, hm5, hf5, hb5⟩; have DS5 := Lib.hid (DS.out.below hb5); have HDG := Lib.hid (HDG.out.mono hb5 (Nat.le_refl _))) | (refine (lean_far _ false (nd R) (dg R) R _ HDG.out (fun k _ => dg_lt R k) (valD_nd R) (by omega)).mono ?_; rintro e w6 ⟨a6, c6, rfl, hm6, hf6, hb6⟩; have HM5 := Lib.hid (hm5.mono hb6 (Nat.le_refl _)); have DS6 := Lib.hid (DS5.out.below hb6); have HM6 := Lib.hid hm6; clear hm5 hf5 hb5 hm6 hf6 hb6 pa0 pa1; have pa0 := DS6.out.oa.c0; have pal := DS6.out.oa.lt; have r0 := DS6.out.o0.c0; have r1 := DS6.out.o0.c1; have rf := DS6.out.o0.f; have rl := DS6.out.o0.lt; have t0 := DS6.out.o1.c0; have t1 := DS6.out.o1.c1; have tf := DS6.out.o1.f; have tl := DS6.out.o1.lt)))
        have KB := ((Below.refl w6.heap.size w6).alloc (Nat.le_refl _) (.cells #[.bool false, .slice a5 (nd (x / y)) c5] 57)).alloc (by simp) (.cells #[.bool false, .slice a6 (nd R) c6] 57)
        have DS7 := Lib.hid (DS6.out.below KB)
        have HM57 := Lib.hid (HM5.out.mono KB (Nat.le_refl _))
        have HM67 := Lib.hid (HM6.out.mono KB (Nat.le_refl _))
        have QB := Lib.hid ((own2_new w6 w6.heap.size rfl (.bool false) (.slice a5 (nd (x / y)) c5) 57).alloc (.cells #[.bool false, .slice a6 (nd R) c6] 57))
        have LB := Lib.hid (own2_new (w6.alloc (.cells #[.bool false, .slice a5 (nd (x / y)) c5] 57)) (w6.heap.size + 1) (by simp) (.bool false) (.slice a6 (nd R) c6) 57)
        clear pa0 pal r0 r1 rf rl t0 t1 tf tl KB
        generalize World.alloc (World.alloc _ _) _ = w7 at DS7 QB LB HM57 HM67 ⊢
        have hsz6 := DS6.out.sz
        have hsz7 := DS7.out.sz
        have r0 := DS7.out.o0.c0
        have r1 := DS7.out.o0.c1
        have rf := DS7.out.o0.f
        have t0 := DS7.out.o1.c0
        have t1 := DS7.out.o1.c1
        have tf := DS7.out.o1.f
        have q0 := QB.out.c0
        have q1 := QB.out.c1
        have l0 := LB.out.c0
        have l1 := LB.out.c1
        go_region
        go_wp2
        refine bodyPost_ret (v := .tuple #[.agg #[.bool false, .slice a5 (nd (x / y)) c5], .agg #[.bool false, .slice a6 (nd R) c6]]) (by simp [results, Tryz.results127, go_sem, r0, r1, rf, t0, t1, tf]) rfl ?_
        have hq : nd (x / y) ≤ N + 1 := by rw [HN.out]; have := nd_mono (Nat.div_le_self x y); omega
        have hr : nd R ≤ nd y + 1 := by omega
        refine ⟨_, _, rfl, zs_fin DS7.out.o0 DS7.out.o1 (by omega) ?_ _ _ _ _, zs_fin DS7.out.o0 DS7.out.o1 (by omega) ?_ _ _ _ _, below_fin DS7.out.kw (by omega) (by omega) _ _ _ _⟩
        · exact ZIs.mk (s := false) (x := x / y) (by simp [sgn]) HM57.out hq
        · exact ZIs.mk (s := false) (x := R) (by rw [HR0.out]; simp [sgn]) HM67.out hr
      | true =>
        obtain ⟨xq, hxq⟩ : ∃ xq, xq = x / y := ⟨_, rfl⟩
        rw [← hxq] at HQV
        have HXQ := Lib.hid hxq
        clear hxq
        by_cases hR : R = 0
        · have d1 : decide ((0 : Int) < ((nd R : Nat) : Int)) = false := by rw [hR, nd_zero]; rfl
          have d1n : decide (0 < nd R) = false := by rw [hR, nd_zero]; rfl
          have HZ := Lib.hid (divmod_neg0 x y HYP.out (by rw [← HR0.out]; exact hR))
          have HZQ : Hid (sgn true x / (y : Int) = sgn true xq) := Lib.hid (by rw [HXQ.out]; exact HZ.out.1)
          have HZR : Hid (sgn true x % (y : Int) = sgn false R) := Lib.hid (by rw [HZ.out.2, hR]; rfl)
          clear hR HZ
          go_wp2_with (first | (go_at_call 153; first | (have HRQ1 := HRQ.out; clear HRQ; refine (lean_far _ true N qf xq _ HRQ1 HQL.out HQV.out (by omega)).mono ?_; rintro e w5 ⟨a5, c5, rfl, hm5, hf5, hb5⟩; obtain ⟨bq, hbq⟩ : ∃ bq, bq = (true && decide (0 < xq)) := ⟨_, rfl⟩; rw [← hbq]; have HBQ := Lib.hid hbq; clear hbq; have DS5 := Lib.hid (DS.out.below hb5); have HDG := Lib.hid (HDG.out.mono hb5 (Nat.le_refl _))) | (refine (lean_far _ false (nd R) (dg R) R _ HDG.out (fun k _ => dg_lt R k) (valD_nd R) (by omega)).mono ?_; rintro e w6 ⟨a6, c6, rfl, hm6, hf6, hb6⟩; have HM5 := Lib.hid (hm5.mono hb6 (Nat.le_refl _)); have DS6 := Lib.hid (DS5.out.below hb6); have HM6 := Lib.hid hm6; clear hm5 hf5 hb5 hm6 hf6 hb6 pa0 pa1; have pa0 := DS6.out.oa.c0; have pal := DS6.out.oa.lt; have r0 := DS6.out.o0.c0; have r1 := DS6.out.o0.c1; have rf := DS6.out.o0.f; have rl := DS6.out.o0.lt; have t0 := DS6.out.o1.c0; have t1 := DS6.out.o1.c1; have tf := DS6.out.o1.f; have tl := DS6.out.o1.lt)))
          have KB := ((Below.refl w6.heap.size w6).alloc (Nat.le_refl _) (.cells #[.bool bq, .slice a5 (nd xq) c5] 57)).alloc (by simp) (.cells #[.bool false, .slice a6 (nd R) c6] 57)
          have DS7 := Lib.hid (DS6.out.below KB)
          have HM57 := Lib.hid (HM5.out.mono KB (Nat.le_refl _))
          have HM67 := Lib.hid (HM6.out.mono KB (Nat.le_refl _))
          have QB := Lib.hid ((own2_new w6 w6.heap.size rfl (.bool bq) (.slice a5 (nd xq) c5) 57).alloc (.cells #[.bool false, .slice a6 (nd R) c6] 57))
          have LB := Lib.hid (own2_new (w6.alloc (.cells #[.bool bq, .slice a5 (nd xq) c5] 57)) (w6.heap.size + 1) (by simp) (.bool false) (.slice a6 (nd R) c6) 57)
          clear pa0 pal r0 r1 rf rl t0 t1 tf tl KB
          generalize World.alloc (World.alloc _ _) _ = w7 at DS7 QB LB HM57 HM67 ⊢
          have hsz6 := DS6.out.sz
          have hsz7 := DS7.out.sz
          have r0 := DS7.out.o0.c0
          have r1 := DS7.out.o0.c1
          have rf := DS7.out.o0.f
          have t0 := DS7.out.o1.c0
          have t1 := DS7.out.o1.c1
          have tf := DS7.out.o1.f
          have q0 := QB.out.c0
          have q1 := QB.out.c1
          have l0 := LB.out.c0
          have l1 := LB.out.c1
          go_region
          go_wp2
          refine bodyPost_ret (v := .tuple #[.agg #[.bool bq, .slice a5 (nd xq) c5], .agg #[.bool false, .slice a6 (nd R) c6]]) (by simp [results, Tryz.results127, go_sem, r0, r1, rf, t0, t1, tf]) rfl ?_
          have hq : nd xq ≤ N + 1 := by rw [HXQ.out, HN.out]; have := nd_mono (Nat.div_le_self x y); omega
          have hr : nd R ≤ nd y + 1 := by omega
          refine ⟨_, _, rfl, zs_fin DS7.out.o0 DS7.out.o1 (by omega) ?_ _ _ _ _, zs_fin DS7.out.o0 DS7.out.o1 (by omega) ?_ _ _ _ _, below_fin DS7.out.kw (by omega) (by omega) _ _ _ _⟩
          · exact (by rw [HBQ.out]; exact ZIs.mk (s := true) (x := xq) (HZQ.out) HM57.out hq)
          · exact ZIs.mk (s := false) (x := R) (HZR.out) HM67.out hr
        · first
            | exact absurd (HR0.out.trans HS.out) hR
            | (rcases HS.out with h | h
               · exact absurd h (by decide)
               · exact absurd (HR0.out.trans h) hR)
end Go.Proofs.YtolkchkedieppaaGreat

/- The reference's numbers: DivMod whole. -/
namespace Go.Proofs.YtolkchkedieppaaGreat
open Go.RowKit
attribute [local go_sem ↓] Go.wp_at_zero Go.wp_at_succ
theorem sgn_own (p : Int) : sgn (decide (p < 0)) p.natAbs = p := by
  unfold sgn
  by_cases h : p < 0
  · simp [h]; omega
  · simp [h]; omega
/-- DivMod of a number at or above 0, or of a multiple, by a number above 0 -/
theorem zdivmod_any (a b : Value) (p q : Int) (k l : Nat) (w : World) (ha : ZIs w a p k) (hb : ZIs w b q l) (hq : 0 < q) (hs : 0 ≤ p ∨ p % q = 0) (hk : k ≤ 274877906944) (hl : l ≤ 274877906944) :
    Calls Tryz.prog 127 #[a, b] w fun e w' => ∃ u v, e = .returned (.tuple #[u, v]) ∧ ZIs w' u (p / q) (k + 1) ∧ ZIs w' v (p % q) (l + 1) ∧ Below w.heap.size w w' := by
  obtain ⟨u, rfl, hu, bu⟩ := ha
  obtain ⟨v, rfl, hv, bv⟩ := hb
  have e2 : decide (q < 0) = false := by simp; omega
  have e3 : ((q.natAbs : Nat) : Int) = q := by omega
  rw [e2]
  have hs2 : decide (p < 0) = false ∨ p.natAbs % q.natAbs = 0 := by
    rcases hs with h | h
    · left; simp; omega
    · right
      have := Int.natAbs_dvd_natAbs.2 (Int.dvd_of_emod_eq_zero h)
      exact Nat.mod_eq_zero_of_dvd this
  refine (bdivmod_dg u v (decide (p < 0)) p.natAbs q.natAbs w hu hv (by omega) hs2 (by omega) (by omega)).mono ?_
  rintro e w' ⟨x, y, rfl, h1, h2, h3⟩
  rw [sgn_own, e3] at h1 h2
  exact ⟨x, y, rfl, h1.le (by omega), h2.le (by omega), h3⟩
end Go.Proofs.YtolkchkedieppaaGreat

/- The reference's fractions: Whole. -/
namespace Go.Proofs.YtolkchkedieppaaGreat
open Go.RowKit
attribute [local go_sem ↓] Go.wp_at_zero Go.wp_at_succ
/-- a fraction of the reference: n over d, d above 0 -/
def QIs (w : World) (v : Value) (n d : Int) (m : Nat) : Prop :=
  ∃ s1 u1 s2 u2, v = .agg #[.bool s1, u1, .bool s2, u2] ∧ ZIs w (.agg #[.bool s1, u1]) n m ∧ ZIs w (.agg #[.bool s2, u2]) d m ∧ 0 < d
theorem QIs.mono {w w' : World} {v : Value} {n d : Int} {m B : Nat} (h : QIs w v n d m) (hb : Below B w w') (hB : w.heap.size ≤ B) : QIs w' v n d m := by
  obtain ⟨s1, u1, s2, u2, h0, h1, h2, h3⟩ := h
  exact ⟨s1, u1, s2, u2, h0, h1.mono hb hB, h2.mono hb hB, h3⟩
theorem ZIs.drew {w : World} {v : Value} {z : Int} {m : Nat} (h : ZIs w v z m) : ZIs w.drew v z m := h.drawn (Drawn.of w 1)
theorem ZIs.setCell {w : World} {v : Value} {z : Int} {m : Nat} {a : Addr} {old : Value} (h : ZIs w v z m) (u : Value) (h0 : w.cell? a = some old) (n0 : NoInt old) : ZIs (w.setCell a u) v z m := by
  obtain ⟨x, h1, h2, h3⟩ := h
  exact ⟨x, h1, h2.setCell u h0 n0, h3⟩
theorem ZIs.store4 {w : World} {v : Value} {z : Int} {m b : Nat} (h : ZIs w v z m) (O : Own4 w b (.bool false) (.slice none 0 0) (.bool false) (.slice none 0 0)) (u0 u1 u2 u3 : Value) :
    ZIs ((((w.setCell ⟨b, 0, none⟩ u0).setCell ⟨b, 1, none⟩ u1).setCell ⟨b, 2, none⟩ u2).setCell ⟨b, 3, none⟩ u3) v z m :=
  (((h.setCell u0 O.c0 (noInt_bool _)).setCell u1 (off_set (by decide) O.c1) (noInt_slice _ _ _)).setCell u2 (off_set (by decide) (off_set (by decide) O.c2)) (noInt_bool _)).setCell u3 (off_set (by decide) (off_set (by decide) (off_set (by decide) O.c3))) (noInt_slice _ _ _)
set_option maxHeartbeats 1000000 in
set_option maxRecDepth 100000 in
theorem whole_any (v : Int) (h1 : -9223372036854775808 ≤ v) (h2 : v < 9223372036854775808) (w : World) :
    Calls Tryz.prog 36 #[.int .i64 v] w fun e w' => ∃ r, e = .returned r ∧ QIs w' r v 1 5 ∧ Below w.heap.size w w' := by
  have H1 := Lib.hid h1
  have H2 := Lib.hid h2
  have HV := Lib.hid (show v = v from rfl)
  have one_lo := Lib.hid (show (-9223372036854775808 : Int) ≤ 1 by decide)
  have one_hi := Lib.hid (show (1 : Int) < 9223372036854775808 by decide)
  have O4 := Lib.hid (own4_new w w.heap.size rfl (.bool false) (.slice none 0 0) (.bool false) (.slice none 0 0) 59)
  have KW := Lib.hid ((Below.refl w.heap.size w).alloc (Nat.le_refl _) (.cells #[.bool false, .slice none 0 0, .bool false, .slice none 0 0] 59))
  clear h1 h2
  go_enter Tryz.func36, Tryz.ntmps36
  go_wp2_with (go_at_call 76; first | (have X1 := H1.out; clear H1; (with_reducible refine (zint_any v X1 H2.out _).mono ?_); rintro e w1 ⟨r1, rfl, hr1, hb1⟩; obtain ⟨s1, a1, n1, c1, rfl, HR1⟩ := hr1.shape; have O4 := Lib.hid (O4.out.below hb1 O4.out.lt); have KW := Lib.hid (KW.out.trans (hb1.mono KW.out.size)); clear hr1 X1) | ((with_reducible refine (zint_any 1 one_lo.out one_hi.out _).mono ?_); rintro e w2 ⟨r2, rfl, hr2, hb2⟩; obtain ⟨s2, a2, n2, c2, rfl, HR2⟩ := hr2.shape; have HR1 := Lib.hid (HR1.out.mono hb2 (Nat.le_refl _)); have O4 := Lib.hid (O4.out.below hb2 O4.out.lt); have KW := Lib.hid (KW.out.trans (hb2.mono KW.out.size)); have x0 := O4.out.c0; have x1 := O4.out.c1; have x2 := O4.out.c2; have x3 := O4.out.c3; have xf := O4.out.f; have xl := O4.out.lt; clear hr2))
  refine bodyPost_ret (v := .agg #[.bool s1, .slice a1 n1 c1, .bool s2, .slice a2 n2 c2]) (by simp [results, Tryz.results36, go_sem, x0, x1, x2, x3, xf, xl]) rfl ?_
  exact ⟨_, rfl, ⟨s1, .slice a1 n1 c1, s2, .slice a2 n2 c2, rfl, HR1.out.store4 O4.out _ _ _ _, HR2.out.store4 O4.out _ _ _ _, by decide⟩, (((KW.out.setCell (Nat.le_refl _) _).setCell (Nat.le_refl _) _).setCell (Nat.le_refl _) _).setCell (Nat.le_refl _) _⟩
end Go.Proofs.YtolkchkedieppaaGreat
