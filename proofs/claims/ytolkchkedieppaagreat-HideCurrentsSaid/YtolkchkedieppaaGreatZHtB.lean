/- heights of package hide: the walk. -/
import Derived.Test.YtolkchkedieppaaGreatZPlainD
import Derived.Test.YtolkchkedieppaaGreatZLin1
import Derived.ArgAppend
set_option linter.unusedVariables false
set_option linter.unusedSimpArgs false
namespace Go.Proofs.YtolkchkedieppaaGreat
open Go.RowKit
attribute [local go_sem ↓] Go.wp_at_zero Go.wp_at_succ
theorem a2s_s : Tryz.prog.underlying 158 = some (.slice (Tryz.prog.elem 158)) := by kernel_rfl
theorem a2s_z (W : World) : (sizeOf (Tryz.prog.elem 158)).run Tryz.prog W = .ok 2 W := by kernel_rfl
theorem ixA2 (b n c i : Nat) (hi : i < n) (W : World) :
  (Instr.indexAt 158 (.slice (some ⟨b, 0, none⟩) n c) (.int .i64 (i : Int))).run Tryz.prog W = .ok (.pointer (some ⟨b, i * 2, none⟩)) W := by
 rw [run_indexAt_slice W _ _ _ _ _ _ a2s_s, if_pos ⟨by omega, by omega⟩, a2s_z]
 simp only [Result.andThen, Int.toNat_natCast]
 congr 3
 unfold Addr.add
 split
 ·rename_i h; simp [show i = 0 by omega]
 ·simp
/-- what heights holds while it adds a wire -/
structure HtS (w wx : World) (B g K : Nat) (rb : Nat → Nat) (M : Nat → Nat → Int) (tb ub : Nat) (pf qf : Nat → Nat) (p q : Nat) : Prop where
 rm : RMat wx B g K K rb (fun _ => K) (castM M) 2
 ct : ∀ s, s < 2 → wx.cell? ⟨tb, s * 2, none⟩ = some (.int .i64 (pf s : Int)) ∧ wx.cell? ⟨tb, s * 2 + 1, none⟩ = some (.int .i64 (qf s : Int))
 lt : tb < wx.heap.size
 y0 : wx.cell? ⟨ub, 0, none⟩ = some (.int .i64 (p : Int))
 y1 : wx.cell? ⟨ub, 1, none⟩ = some (.int .i64 (q : Int))
 lu : ub < wx.heap.size
 nb : ∀ i, i < K → rb i ≠ tb
 nu : ∀ i, i < K → rb i ≠ ub
 hw : ∀ i, i < K → w.heap.size ≤ rb i
 kb : Below w.heap.size w wx
section
variable {w wx wy : World} {B g K tb ub p q : Nat} {rb pf qf : Nat → Nat} {M : Nat → Nat → Int}
theorem HtS.below (h : HtS w wx B g K rb M tb ub pf qf p q) (hb : Below wx.heap.size wx wy) : HtS w wy B g K rb M tb ub pf qf p q :=
 ⟨h.rm.below hb (Nat.le_refl _), fun s hs => ⟨(hb.cell (p := ⟨tb, s * 2, none⟩) h.lt).trans (h.ct s hs).1, (hb.cell (p := ⟨tb, s * 2 + 1, none⟩) h.lt).trans (h.ct s hs).2⟩, Nat.lt_of_lt_of_le h.lt hb.size,
  (hb.cell (p := ⟨ub, 0, none⟩) h.lu).trans h.y0, (hb.cell (p := ⟨ub, 1, none⟩) h.lu).trans h.y1, Nat.lt_of_lt_of_le h.lu hb.size, h.nb, h.nu, h.hw, h.kb.trans (hb.mono h.kb.size)⟩
theorem HtS.drew (h : HtS w wx B g K rb M tb ub pf qf p q) : HtS w wx.drew B g K rb M tb ub pf qf p q := h.below (Below.refl _ _).drew
theorem HtS.add {i j K' : Nat} {x : Int} {s : Bool} {a a2 : Option Addr} {m c m2 c2 : Nat} (h : HtS w wx B g K rb M tb ub pf qf p q) (hi : i < K) (hj : j < K)
  (hx : RatIs wx (.agg #[.bool s, .slice a m c, .bool false, .slice a2 m2 c2]) (castM M i j + (x : Rat)) K') (hsz : szQ (castM M i j + (x : Rat)) ≤ 2) :
  HtS w (st4 wx (rb i) (j * 4) (.bool s) (.slice a m c) (.bool false) (.slice a2 m2 c2)) B g K rb (addI M i j x) tb ub pf qf p q :=
 ⟨(h.rm.set hi hj (hx.tight hsz)).congr (fun r c _ _ => (castM_add M i j x r c).symm), fun s' hs => ⟨(far4 _ _ _ _ (h.nb i hi)).trans (h.ct s' hs).1, (far4 _ _ _ _ (h.nb i hi)).trans (h.ct s' hs).2⟩, by rw [size_st4]; exact h.lt,
  (far4 _ _ _ _ (h.nu i hi)).trans h.y0, (far4 _ _ _ _ (h.nu i hi)).trans h.y1, by rw [size_st4]; exact h.lu, h.nb, h.nu, h.hw, below_st4 h.kb (h.hw i hi) _ _ _ _⟩
theorem szQ_cell {b : Nat} (h : BdI M b) (hb : b ≤ 1000) (i j : Nat) (x : Int) (hx : x.natAbs ≤ 1) : szQ (castM M i j + (x : Rat)) ≤ 2 := by
 have := szQ_cast (h.add i j x hx) (by omega) i j
 rw [castM_add, updM, if_pos ⟨rfl, rfl⟩] at this
 exact this
end
/-- the potentials: solutions of the equations -/
structure HtOK (n : Nat) (W : List (Int × Int)) (x : Nat → Rat) (KM KX : Nat) : Prop where
 piv : ∀ c, c < n - 1 → 0 < triQ (augQ (n - 1) (castM (hMat n W W.length)) (fun i => if i = 0 then 1 else 0)) c c c
 sz : ∀ c, c ≤ n - 1 → ∀ i j, i < n - 1 → j < n - 1 + 1 → szQ (triQ (augQ (n - 1) (castM (hMat n W W.length)) (fun i => if i = 0 then 1 else 0)) c i j) ≤ KM
 k1 : 2 ≤ KM
 k2 : KM ≤ 100000000
 sol : ∀ i, i < n - 1 → resid (n - 1) i (triQ (augQ (n - 1) (castM (hMat n W W.length)) (fun i => if i = 0 then 1 else 0)) (n - 1)) x i = 0
 xs : ∀ i, i < n - 1 → szQ (x i) ≤ KX
 x2 : KX ≤ 100000000
 x1 : 2 ≤ KX
set_option maxHeartbeats 8000000 in
set_option maxRecDepth 100000 in
theorem heights_any (g0 c0 n : Nat) (W : List (Int × Int)) (x : Nat → Rat) (KM KX : Nat) (w : World) (hW : PrR w g0 0 W) (hg : g0 < w.heap.size) (hl : W.length ≤ 24) (h2 : 2 ≤ n) (hn : n ≤ 25) (hok : WiresOK n W) (hne : ∀ k, k < W.length → wA W k ≠ wB W k) (hcon : ConOK n W) (hht : HtOK n W x KM KX) :
  Calls Tryz.prog 62 #[.int .i64 (n : Nat), .slice (some ⟨g0, 0, none⟩) W.length c0] w fun e w' => ∃ g c, e = .returned (.tuple #[.slice (some ⟨g, 0, none⟩) n c, .int .i64 0]) ∧ w.heap.size ≤ g ∧ RatRow w' g n (fun i => if i < n - 1 then x i else 0) KX ∧ Below w.heap.size w w' := by
 have HW := Lib.hid hW
 have HOK := Lib.hid hok
 have HNE := Lib.hid hne
 have HC := Lib.hid hcon
 have HT := Lib.hid hht
 have d1 : decide ((24 : Int) < ((W.length : Nat) : Int)) = false := by simp; omega
 have d1n : decide (24 < W.length) = false := by simp; omega
 have d2 : decide ((n : Int) < 2) = false := by simp; omega
 have d2n : decide (n < 2) = false := by simp; omega
 have d3 : decide ((25 : Int) < (n : Int)) = false := by simp; omega
 have d3n : decide (25 < n) = false := by simp; omega
 have KB0 := Lib.hid (Below.refl w.heap.size w)
 clear hW hok hne hcon hht
 go_enter Tryz.func62, Tryz.ntmps62
 go_wp2
 go_loopw [7, 25] (fun v7 v25 wr => ∃ k : Nat, k ≤ W.length ∧ v25 = .int .i64 (k : Nat) ∧ Hid (Below w.heap.size w wr)) (fun _ v25 _ => W.length - (intOf v25).toNat)
 case atStart => exact ⟨0, by omega, rfl, KB0⟩
 case round =>
  clear KB0 d1 d1n d2 d2n d3 d3n
  obtain ⟨k, hk, rfl, KB⟩ := hrel
  by_cases h : k < W.length
  ·have e1 : decide ((k : Int) < ((W.length : Nat) : Int)) = true := by simpa using h
   have e1n : decide (k < W.length) = true := by simpa using h
   have ix := fun X => ixPr g0 W.length c0 k h X
   have HWR := Lib.hid (HW.out.below KB.out hg)
   have x0 := HWR.out.c0 k h
   have x1 := HWR.out.c1 k h
   simp only [Nat.zero_add] at x0 x1
   obtain ⟨ea, la⟩ := HOK.out.a h
   obtain ⟨eb, lb⟩ := HOK.out.b h
   rw [ea] at x0
   rw [eb] at x1
   have hab := HNE.out k h
   obtain ⟨a, hA⟩ : ∃ a, a = wA W k := ⟨_, rfl⟩
   obtain ⟨b, hB⟩ : ∃ b, b = wB W k := ⟨_, rfl⟩
   rw [← hA] at x0 la hab
   rw [← hB] at x1 lb hab
   obtain ⟨m, hm⟩ : ∃ m : Int, m = min (a : Int) (b : Int) := ⟨_, rfl⟩
   obtain ⟨M, hM⟩ : ∃ M : Int, M = max (a : Int) (b : Int) := ⟨_, rfl⟩
   have f1 : decide (m < 0) = false := by simp; omega
   have f2 : decide ((n : Int) ≤ M) = false := by simp; omega
   have f3 : ((a : Int) == (b : Int)) = false := by rw [beq_eq_false_iff_ne]; omega
   have f3n : (a == b) = false := by rw [beq_eq_false_iff_ne]; exact hab
   have m1 : (if (b : Int) < (a : Int) then (b : Int) else (a : Int)) = m := by rw [hm]; split <;> omega
   have m2 : min (a : Int) (b : Int) = m := hm.symm
   have m3 : (if (a : Int) < (b : Int) then (b : Int) else (a : Int)) = M := by rw [hM]; split <;> omega
   have m4 : max (a : Int) (b : Int) = M := hM.symm
   have KB2 := Lib.hid (KB.out.alloc KB.out.size (.cells #[.int .i64 (a : Int), .int .i64 (b : Int)] 40))
   clear ea eb hA hB hm hM hab la lb HWR
   go_wp2
   go_roundw
   case rel => exact ⟨k + 1, by omega, by go_num, KB2⟩
   case measure => simp [intOf]; omega
  ·obtain rfl : k = W.length := by omega
   have e1 : decide (((W.length : Nat) : Int) < ((W.length : Nat) : Int)) = false := by simp
   have hcc := connected_any g0 c0 n W wr (HW.out.below KB.out hg) (Nat.lt_of_lt_of_le hg KB.out.size) (by omega) (by omega) (by omega) HOK.out true ⟨fun _ => HC.out, fun _ => rfl⟩
   have w1 : IntKind.i64.wrap ((n : Int) - 1) = ((n - 1 : Nat) : Int) := by rw [IntKind.wrap_i64]; omega
   obtain ⟨K, hK⟩ : ∃ K, K = n - 1 := ⟨_, rfl⟩
   rw [← hK] at w1
   have hz := zero_any K (by omega) (by omega)
   have HK := Lib.hid hK
   have hk0 : 0 < K := by omega
   have hk24 : K ≤ 24 := by omega
   clear hK
   go_wp2_with (first
    | (go_at_call 109; (with_reducible refine hcc.mono ?_); rintro e w2 ⟨rfl, hb⟩; have KB := Lib.hid (KB.out.trans (hb.mono KB.out.size)); clear hb)
    | (go_at_call 110; (with_reducible refine (hz _).mono ?_); rintro e w3 ⟨g, rb, rfl, hrm, hb⟩; have RM := Lib.hid hrm; have BB := Lib.hid hb; clear hrm hb))
   have HBW := Lib.hid KB.out.size
   have KB := Lib.hid (KB.out.trans (BB.out.mono KB.out.size))
   obtain ⟨B, hB⟩ : ∃ B, B = w2.heap.size := ⟨_, rfl⟩
   rw [← hB] at RM HBW
   clear hB BB hcc hz
   have HG : Hid (w.heap.size ≤ g ∧ ∀ i, i < K → w.heap.size ≤ rb i) := Lib.hid ⟨Nat.le_trans HBW.out RM.out.gB, fun i hi => Nat.le_trans HBW.out (RM.out.rB i hi)⟩
   have RM := Lib.hid (RM.out.congr (Q' := castM (hMat n W 0)) (fun i j _ _ => by simp [castM, hMat]))
   go_loopw [10, 12, 63] (fun v10 v12 v63 wr => ∃ k : Nat, k ≤ W.length ∧ v63 = .int .i64 (k : Nat) ∧ Hid (RMat wr B g K K rb (fun _ => K) (castM (hMat n W k)) 2) ∧ Hid (Below w.heap.size w wr)) (fun _ _ v63 _ => W.length - (intOf v63).toNat)
   case atStart => exact ⟨0, by omega, rfl, RM, KB⟩
   case round =>
    clear RM KB
    obtain ⟨k, hk, rfl, RM, KB⟩ := hrel
    by_cases h : k < W.length
    ·have e1 : decide ((k : Int) < ((W.length : Nat) : Int)) = true := by simpa using h
     have e1n : decide (k < W.length) = true := by simpa using h
     have ix := fun X => ixPr g0 W.length c0 k h X
     have HWR := Lib.hid (HW.out.below KB.out hg)
     have x0 := HWR.out.c0 k h
     have x1 := HWR.out.c1 k h
     simp only [Nat.zero_add] at x0 x1
     obtain ⟨ea, la⟩ := HOK.out.a h
     obtain ⟨eb, lb⟩ := HOK.out.b h
     rw [ea] at x0
     rw [eb] at x1
     have hab := HNE.out k h
     have HST := Lib.hid (fun s hs => hIn_step n W k s hs)
     have HI0 : Hid (hMat n W k = hIn n W k 0) := Lib.hid rfl
     have HI2 : Hid (hIn n W k 2 = hMat n W (k + 1)) := Lib.hid rfl
     have HBD := Lib.hid (fun s => hIn_bd n W k s)
     obtain ⟨a, hA⟩ : ∃ a, a = wA W k := ⟨_, rfl⟩
     obtain ⟨b, hB⟩ : ∃ b, b = wB W k := ⟨_, rfl⟩
     rw [← hA] at x0 la hab HST
     rw [← hB] at x1 lb hab HST
     clear ea eb hA hB
     go_upto_region 17 with (fail)
     have KB := Lib.hid (KB.out.alloc KB.out.size (.cells #[.int .i64 (a : Int), .int .i64 (b : Int)] 40))
     have RM := Lib.hid (RM.out.alloc (.cells #[.int .i64 (a : Int), .int .i64 (b : Int)] 40))
     have y0 : (wr.alloc (.cells #[.int .i64 (a : Int), .int .i64 (b : Int)] 40)).cell? ⟨wr.heap.size, 0, none⟩ = some (.int .i64 (a : Int)) := by simp [go_sem]
     have y1 : (wr.alloc (.cells #[.int .i64 (a : Int), .int .i64 (b : Int)] 40)).cell? ⟨wr.heap.size, 1, none⟩ = some (.int .i64 (b : Int)) := by simp [go_sem]
     generalize wr.alloc (.cells #[.int .i64 (a : Int), .int .i64 (b : Int)] 40) = w4 at KB RM y0 y1 ⊢
     obtain ⟨sb, hsb⟩ : ∃ sb, sb = wr.heap.size := ⟨_, rfl⟩
     rw [← hsb] at y0 y1 ⊢
     clear hsb x0 x1 ix HWR
     rw [HI0.out] at RM
     go_upto_region 18 with (fail)
     have NB : Hid (g ≠ w4.heap.size ∧ ∀ i, i < K → rb i ≠ w4.heap.size) := Lib.hid ⟨Nat.ne_of_lt RM.out.gl, fun i hi => Nat.ne_of_lt (RM.out.row i hi).lt⟩
     have KB := Lib.hid (KB.out.alloc KB.out.size (.cells #[.int .i64 (a : Int), .int .i64 (b : Int), .int .i64 (b : Int), .int .i64 (a : Int)] 157))
     have RM := Lib.hid (RM.out.alloc (.cells #[.int .i64 (a : Int), .int .i64 (b : Int), .int .i64 (b : Int), .int .i64 (a : Int)] 157))
     obtain ⟨pf, hpf⟩ : ∃ pf : Nat → Nat, pf = fun s => if s = 0 then a else b := ⟨_, rfl⟩
     obtain ⟨qf, hqf⟩ : ∃ qf : Nat → Nat, qf = fun s => if s = 0 then b else a := ⟨_, rfl⟩
     have HPF : Hid (∀ s, pf s < n ∧ qf s < n) := Lib.hid (fun s => by rw [hpf, hqf]; constructor <;> (dsimp only; split <;> omega))
     have HSS : Hid (∀ s, s < 2 → hIn n W k (s + 1) = hStep n (hIn n W k s) (pf s) (qf s)) := Lib.hid (fun s hs => HST.out s hs _ _ (by rw [hpf]) (by rw [hqf]))
     have CT : Hid (∀ s, s < 2 → (w4.alloc (.cells #[.int .i64 (a : Int), .int .i64 (b : Int), .int .i64 (b : Int), .int .i64 (a : Int)] 157)).cell? ⟨w4.heap.size, s * 2, none⟩ = some (.int .i64 (pf s : Int)) ∧ (w4.alloc (.cells #[.int .i64 (a : Int), .int .i64 (b : Int), .int .i64 (b : Int), .int .i64 (a : Int)] 157)).cell? ⟨w4.heap.size, s * 2 + 1, none⟩ = some (.int .i64 (qf s : Int))) := Lib.hid (fun s hs => by
      rcases (show s = 0 ∨ s = 1 by omega) with rfl | rfl <;> simp [go_sem, hpf, hqf])
     have LT : Hid (w4.heap.size < (w4.alloc (.cells #[.int .i64 (a : Int), .int .i64 (b : Int), .int .i64 (b : Int), .int .i64 (a : Int)] 157)).heap.size) := Lib.hid (by simp)
     generalize w4.alloc (.cells #[.int .i64 (a : Int), .int .i64 (b : Int), .int .i64 (b : Int), .int .i64 (a : Int)] 157) = w5 at KB RM CT LT ⊢
     obtain ⟨tb, htb⟩ : ∃ tb, tb = w4.heap.size := ⟨_, rfl⟩
     rw [← htb] at CT LT NB ⊢
     clear htb y0 y1 hpf hqf hab la lb HST HI0
     go_loopw [12, 79] (fun v12 v79 wi => ∃ s : Nat, s ≤ 2 ∧ v79 = .int .i64 (s : Nat) ∧ Hid (RMat wi B g K K rb (fun _ => K) (castM (hIn n W k s)) 2) ∧ Hid (∀ s, s < 2 → wi.cell? ⟨tb, s * 2, none⟩ = some (.int .i64 (pf s : Int)) ∧ wi.cell? ⟨tb, s * 2 + 1, none⟩ = some (.int .i64 (qf s : Int))) ∧ Hid (tb < wi.heap.size) ∧ Hid (Below w.heap.size w wi)) (fun _ v79 _ => 2 - (intOf v79).toNat)
     case atStart => exact ⟨0, by omega, rfl, RM, CT, LT, KB⟩
     case round =>
      clear RM CT LT KB
      obtain ⟨s, hs, rfl, RM, CT, LT, KB⟩ := hrel
      by_cases h3 : s < 2
      ·have e2 : decide ((s : Int) < 2) = true := by simp; omega
       have e2n : decide (s < 2) = true := by simpa using h3
       have ix := fun X => ixA2 tb 2 2 s h3 X
       have x0 := (CT.out s h3).1
       have x1 := (CT.out s h3).2
       have hpn := (HPF.out s).1
       have hqn := (HPF.out s).2
       have hst := HSS.out s h3
       have hbd := HBD.out s
       have hbd2 := HBD.out (s + 1)
       obtain ⟨p, hp⟩ : ∃ p, p = pf s := ⟨_, rfl⟩
       obtain ⟨q, hq⟩ : ∃ q, q = qf s := ⟨_, rfl⟩
       rw [← hp] at x0 hpn hst
       rw [← hq] at x1 hqn hst
       have HST := Lib.hid hst
       have HB1 := Lib.hid hbd
       have HB2 := Lib.hid hbd2
       clear hp hq hst hbd hbd2
       go_upto_region 20 with (fail)
       have NU : Hid (∀ i, i < K → rb i ≠ wr.heap.size) := Lib.hid (fun i hi => Nat.ne_of_lt (RM.out.row i hi).lt)
       have AL := Lib.hid ((Below.refl wr.heap.size wr).alloc (Nat.le_refl _) (.cells #[.int .i64 (p : Int), .int .i64 (q : Int)] 157))
       have y0 : (wr.alloc (.cells #[.int .i64 (p : Int), .int .i64 (q : Int)] 157)).cell? ⟨wr.heap.size, 0, none⟩ = some (.int .i64 (p : Int)) := by simp [go_sem]
       have y1 : (wr.alloc (.cells #[.int .i64 (p : Int), .int .i64 (q : Int)] 157)).cell? ⟨wr.heap.size, 1, none⟩ = some (.int .i64 (q : Int)) := by simp [go_sem]
       have hul : wr.heap.size < (wr.alloc (.cells #[.int .i64 (p : Int), .int .i64 (q : Int)] 157)).heap.size := by simp
       generalize wr.alloc (.cells #[.int .i64 (p : Int), .int .i64 (q : Int)] 157) = w6 at AL y0 y1 hul ⊢
       have RM := Lib.hid (RM.out.below AL.out (Nat.le_refl _))
       have CT := Lib.hid (fun s hs => And.intro ((AL.out.cell (p := ⟨tb, s * 2, none⟩) LT.out).trans (CT.out s hs).1) ((AL.out.cell (p := ⟨tb, s * 2 + 1, none⟩) LT.out).trans (CT.out s hs).2))
       have LT := Lib.hid (Nat.lt_of_lt_of_le LT.out AL.out.size)
       have KB := Lib.hid (KB.out.trans (AL.out.mono KB.out.size))
       obtain ⟨ub, hub⟩ : ∃ ub, ub = wr.heap.size := ⟨_, rfl⟩
       rw [← hub] at y0 y1 NU hul ⊢
       have Y0 := Lib.hid y0
       have Y1 := Lib.hid y1
       have LU := Lib.hid hul
       clear hub x0 x1 ix AL hul
       by_cases hpK : p = K
       ·have e3 : ((p : Int) == (K : Int)) = true := by rw [hpK]; simp
        have e3n : (p == K) = true := by rw [hpK]; simp
        have RM := Lib.hid (RM.out.congr (Q' := castM (hIn n W k (s + 1))) (fun i j _ _ => by rw [HST.out, hStep, if_pos (by rw [hpK]; exact HK.out)]))
        go_wp2
        go_roundw
        case rel => exact ⟨s + 1, by omega, by go_num, RM, CT, LT, KB⟩
        case measure => simp [intOf]; omega
       ·have e3 : ((p : Int) == (K : Int)) = false := by rw [beq_eq_false_iff_ne]; omega
        have e3n : (p == K) = false := by rw [beq_eq_false_iff_ne]; exact hpK
        have hpk : p < K := by have := HK.out; omega
        have HS : Hid (HtS w w6 B g K rb (hIn n W k s) tb ub pf qf p q) := Lib.hid ⟨RM.out, CT.out, LT.out, Y0.out, Y1.out, LU.out, NB.out.2, NU.out, HG.out.2, KB.out⟩
        have HMM : Hid (hIn n W k (s + 1) = if q < n - 1 then addI (addI (hIn n W k s) p p 1) p q (-1) else addI (hIn n W k s) p p 1) := Lib.hid (by rw [HST.out, hStep, if_neg (by rw [← HK.out]; exact hpK)])
        obtain ⟨M, hM⟩ : ∃ M, M = hIn n W k s := ⟨_, rfl⟩
        rw [← hM] at HS HMM HB1
        clear RM CT LT Y0 Y1 LU NU KB HST hM
        have HV := Lib.hid (szQ_cell HB1.out (by omega) p p 1 (by decide))
        go_upto_region 21 with (fail)
        go_cut [] (fun wx => Hid (HtS w wx B g K rb (addI M p p (1)) tb ub pf qf p q))
        case first =>
         have keepR : Hid (∀ w', HtS w w' B g K rb M tb ub pf qf p q → w'.cell? ⟨ub, 0, none⟩ = some (.int .i64 (p : Int)) ∧ w'.cell? ⟨ub, 1, none⟩ = some (.int .i64 (q : Int))) := Lib.hid (fun w' h => ⟨h.y0, h.y1⟩)
         have H0 := Lib.hid HS.out.drew
         clear y0 y1
         go_region_held3 (fun w' => w'.cell? ⟨ub, 0, none⟩ = some (.int .i64 (p : Int)) ∧ w'.cell? ⟨ub, 1, none⟩ = some (.int .i64 (q : Int)))
          (first | (with_reducible exact keepR.out _ H0.out) | (with_reducible exact keepR.out _ H1.out) | (with_reducible exact K7.out))
          (first
          | (go_at_call 112; (with_reducible refine (rat_whole (1) (by omega) (by omega) _).mono ?_); rintro e wa ⟨ra, rfl, hra, hba⟩; obtain ⟨s4, a4, n4, c4, b4, m4, d4, rfl, K4⟩ := hra.shape; clear hra; have H1 := Lib.hid (H0.out.below hba); clear hba)
          | (go_at_call 111; (with_reducible refine (madd_any g K K p (rb p) K K p (castM M p) (fun _ => True) 2 _ ((1 : Int) : Rat) _ (H1.out.rm.hdr p hpk) hpk hpk (H1.out.rm.row p hpk) trivial K4.out (by omega) (by omega)).mono ?_); rintro e w' ⟨w7, s5, a5, n5, c5, b5, m5, d5, rfl, rfl, hb5, K5⟩; have H7 := Lib.hid ((H1.out.below hb5).add hpk hpk K5 HV.out); have K7 := Lib.hid (And.intro H7.out.y0 H7.out.y1); clear hb5 K5))
         all_goals
          go_wp2
          go_meet
          case rel => exact H7
        case rest =>
        have HS := Lib.hid hcut.out
        have y0 := HS.out.y0
        have y1 := HS.out.y1
        clear hcut
        have HV2 := Lib.hid (szQ_cell (HB1.out.add p p 1 (by decide)) (by omega) p q (-1) (by decide))
        clear HV
        have HV := HV2
        clear HV2
        by_cases hqk : q < K
        ·have e4 : decide ((q : Int) < (K : Int)) = true := by simp; omega
         have e4n : decide (q < K) = true := by simpa using hqk
         rw [if_pos (by rw [← HK.out]; exact hqk)] at HMM
         go_upto_region 23 with (fail)
         have keepR : Hid (∀ w', HtS w w' B g K rb (addI M p p 1) tb ub pf qf p q → w'.cell? ⟨ub, 0, none⟩ = some (.int .i64 (p : Int)) ∧ w'.cell? ⟨ub, 1, none⟩ = some (.int .i64 (q : Int))) := Lib.hid (fun w' h => ⟨h.y0, h.y1⟩)
         have H0 := Lib.hid HS.out.drew
         clear y0 y1
         go_region_held3 (fun w' => w'.cell? ⟨ub, 0, none⟩ = some (.int .i64 (p : Int)) ∧ w'.cell? ⟨ub, 1, none⟩ = some (.int .i64 (q : Int)))
          (first | (with_reducible exact keepR.out _ H0.out) | (with_reducible exact keepR.out _ H1.out) | (with_reducible exact K7.out))
          (first
          | (go_at_call 112; (with_reducible refine (rat_whole (-1) (by omega) (by omega) _).mono ?_); rintro e wa ⟨ra, rfl, hra, hba⟩; obtain ⟨s4, a4, n4, c4, b4, m4, d4, rfl, K4⟩ := hra.shape; clear hra; have H1 := Lib.hid (H0.out.below hba); clear hba)
          | (go_at_call 111; (with_reducible refine (madd_any g K K p (rb p) K K q (castM (addI M p p 1) p) (fun _ => True) 2 _ ((-1 : Int) : Rat) _ (H1.out.rm.hdr p hpk) hpk hqk (H1.out.rm.row p hpk) trivial K4.out (by omega) (by omega)).mono ?_); rintro e w' ⟨w7, s5, a5, n5, c5, b5, m5, d5, rfl, rfl, hb5, K5⟩; have H7 := Lib.hid ((H1.out.below hb5).add hpk hqk K5 HV.out); have K7 := Lib.hid (And.intro H7.out.y0 H7.out.y1); clear hb5 K5))
         all_goals
          go_wp2
          go_roundw
          case rel => exact ⟨s + 1, by omega, by go_num, by rw [HMM.out]; exact Lib.hid H7.out.rm, Lib.hid H7.out.ct, Lib.hid H7.out.lt, Lib.hid H7.out.kb⟩
          case measure => simp [intOf]; omega
        ·have e4 : decide ((q : Int) < (K : Int)) = false := by simp; omega
         have e4n : decide (q < K) = false := by simpa using hqk
         rw [if_neg (by rw [← HK.out]; exact hqk)] at HMM
         go_wp2
         go_roundw
         case rel => exact ⟨s + 1, by omega, by go_num, by rw [HMM.out]; exact Lib.hid HS.out.rm, Lib.hid HS.out.ct, Lib.hid HS.out.lt, Lib.hid HS.out.kb⟩
         case measure => simp [intOf]; omega
      ·obtain rfl : s = 2 := by omega
       have e2 : decide (((2 : Nat) : Int) < 2) = false := by simp
       rw [HI2.out] at RM
       go_wp2
       go_roundw
       case rel => exact ⟨k + 1, by omega, by go_num, RM, KB⟩
       case measure => simp [intOf]; omega
    ·obtain rfl : k = W.length := by omega
     have e1 : decide (((W.length : Nat) : Int) < ((W.length : Nat) : Int)) = false := by simp
     obtain ⟨P1, P2, P3, P4, P5, P6, P7, P8⟩ := HT.out
     rw [← HK.out] at P1 P2 P5 P6
     have P1 := Lib.hid P1
     have P2 := Lib.hid P2
     have P5 := Lib.hid P5
     have P6 := Lib.hid P6
     clear HT
     obtain ⟨i0, hi, hz0, hz1, hz2⟩ := info_parts infoR
     go_upto_region 27 with (first
      | (go_at_call 112; (with_reducible refine (rat_zero _).mono ?_); rintro e w20 ⟨s1, a1, n1, c1, b1, m1, d1, rfl, K1, hb1⟩; have HB1 := Lib.hid hb1; clear hb1)
      | (go_at_call 113; go_loud ((with_reducible refine (repeat_rat _ _ K 0 2 _ _ _ _ _ _ _ _ hk0 hk24 (own4_new _ _ rfl _ _ _ _ _) (K1.out.mono (boxes1 _ _) (Nat.le_refl _))).mono ?_); rintro e w21 ⟨P, rfl, hPR, hPg, hb2⟩; have HB2 := Lib.hid (HB1.out.trans (((boxes1 w20 (.cells #[.bool s1, .slice a1 n1 c1, .bool false, .slice b1 m1 d1] 115)).trans (hb2.mono (by simp))).mono HB1.out.size)); have HP : Hid (wr.heap.size ≤ P) := Lib.hid (by have := HB1.out.size; simp at hPg; omega); have PR := Lib.hid hPR; clear hb2 hPg hPR)))
     have HGP : Hid (P ≠ g ∧ ∀ i, i < K → P ≠ rb i) := Lib.hid ⟨Nat.ne_of_gt (Nat.lt_of_lt_of_le RM.out.gl HP.out), fun i hi => Nat.ne_of_gt (Nat.lt_of_lt_of_le (RM.out.row i hi).lt HP.out)⟩
     have HWP := Lib.hid (Nat.le_trans KB.out.size HP.out)
     have RM := Lib.hid (RM.out.below HB2.out (Nat.le_refl _))
     have KB := Lib.hid (KB.out.trans (HB2.out.mono KB.out.size))
     clear HB2 HB1 K1 HP
     obtain ⟨sp, ap, np, cp, ap2, np2, cp2, RP, _⟩ := PR.out.cell 0 hk0
     have ixp : ∀ X, (Instr.indexAt 107 (.slice (some ⟨P, 0, none⟩) K K) (.int .i64 0)).run Tryz.prog X = .ok (.pointer (some ⟨P, 0, none⟩)) X := fun X => by have := rowIx P K K 0 hk0 X; simpa using this
     have RP := Lib.hid RP
     go_upto_region 28 with (first
      | (go_at_call 112; (with_reducible refine (rat_whole 1 (by omega) (by omega) _).mono ?_); rintro e w22 ⟨r2, rfl, hr2, hb2⟩; obtain ⟨s2, a2, n2, c2, b2, m2, d2, rfl, K2⟩ := hr2.shape; clear hr2; have RM := Lib.hid (RM.out.below hb2 (Nat.le_refl _)); have RP := Lib.hid (RP.out.below hb2 RP.out.lt); have PR := Lib.hid (PR.out.below hb2 (Nat.le_refl _)); have KB := Lib.hid (KB.out.trans (hb2.mono KB.out.size)); clear hb2; obtain ⟨y0, y1, y2, y3, yl⟩ := RP.out; have yf := PR.out.f; simp only [Nat.zero_mul, Nat.zero_add] at y0 y1 y2 y3))
     have RM := Lib.hid (RM.out.far (.bool s2) (.slice a2 n2 c2) (.bool false) (.slice b2 m2 d2) RP.out HGP.out.1 HGP.out.2)
     have PR := Lib.hid (((PR.out.set (i := 0) (o := 0) hk0 rfl (K2.out.tight (szQ_int 1 (by decide)))).congr (P' := fun _ => True) (q' := fun i => if i = 0 then 1 else 0) (fun j hj _ => by
      by_cases e : j = 0
      ·exact ⟨.inl e, by rw [e]; rfl⟩
      ·exact ⟨.inr trivial, by simp [updQ, e]⟩)).le P3)
     have KB := Lib.hid (below_st4 (o := 0) KB.out HWP.out (.bool s2) (.slice a2 n2 c2) (.bool false) (.slice b2 m2 d2))
     simp only [Nat.zero_mul, Nat.zero_add, st4] at RM PR KB
     clear y0 y1 y2 y3 yl yf K2 RP
     have HBS := Lib.hid (Nat.le_trans RM.out.gB (Nat.le_of_lt RM.out.gl))
     have HGN := HGP.out.1
     go_wp2_with (first
      | (go_at_call 114; (with_reducible refine (lsolve_any B g K K P K rb (castM (hMat n W W.length)) (fun i => if i = 0 then 1 else 0) x KM KX _ hk0 hk24 HBS.out (RM.out.le P3) PR.out HGN P1.out P2.out P3 P4 P5.out P6.out P7).mono ?_); rintro e w30 ⟨X, rfl, hX, hXs, hb⟩; have KB := Lib.hid (KB.out.trans (hb.mono HBW.out)); have RX := Lib.hid hX; clear hX hXs hb)
      | (go_at_call 112; (with_reducible refine (rat_zero _).mono ?_); rintro e w31 ⟨s3, a3, n3, c3, b3, m3, d3, rfl, K3, hb3⟩; have RX := Lib.hid (RX.out.below hb3 (Nat.le_refl _)); have KB := Lib.hid (KB.out.trans (hb3.mono KB.out.size)); clear hb3; have RX := Lib.hid (RX.out.alloc (.cells #[.bool s3, .slice a3 n3 c3, .bool false, .slice b3 m3 d3] 115)); have K3 := Lib.hid (K3.out.mono (boxes1 w31 (.cells #[.bool s3, .slice a3 n3 c3, .bool false, .slice b3 m3 d3] 115)) (Nat.le_refl _)); have KB := Lib.hid (KB.out.alloc KB.out.size (.cells #[.bool s3, .slice a3 n3 c3, .bool false, .slice b3 m3 d3] 115)); have NEW : Hid (Rd4 (w31.alloc (.cells #[.bool s3, .slice a3 n3 c3, .bool false, .slice b3 m3 d3] 115)) w31.heap.size 0 (.bool s3) (.slice a3 n3 c3) (.bool false) (.slice b3 m3 d3)) := Lib.hid (have o4 := own4_new w31 _ rfl (.bool s3) (.slice a3 n3 c3) (.bool false) (.slice b3 m3 d3) 115; ⟨o4.c0, o4.c1, o4.c2, o4.c3, o4.lt⟩))
      | (at_builtin; go_loud (refine wpList_append_grows (P := Tryz.prog) _ rfl (.tmp 119) (.tmp 121) 107 rfl 115 i0 (.agg #[.bool false, .slice none 0 0, .bool false, .slice none 0 0]) 4 64 Tryz.underlying107 hi hz0 hz1 hz2 rfl (by decide) (some ⟨X, 0, none⟩) K K _ rfl (fun h => by cases h) (rowL_len _ X K) (rowL_cells RX.out) ⟨w31.heap.size, 0, none⟩ 1 1 [.bool s3, .slice a3 n3 c3, .bool false, .slice b3 m3 d3] rfl rfl (cells4' NEW.out) (one4' _ _ _ _ rfl rfl rfl rfl) (by omega) (by unfold maxLen; omega) (by omega) ?_; intro v' w32 hown hgrow; obtain ⟨r2, rc2, rfl, hrb, PR2⟩ := row_grow RX.out ((Below.refl _ _).grown hgrow (Nat.le_refl _) (fun k h => by cases h)) ((K3.out.le P8).mono ((Below.refl _ _).grown hgrow (Nat.le_refl _) (fun k h => by cases h)) (Nat.le_refl _)) hown; have PR2 := Lib.hid PR2; have KB2 := Lib.hid (KB.out.grown hgrow KB.out.size (fun k h => by cases h)); have HRB := Lib.hid hrb; clear hown hgrow hrb)))
     go_ret2
     refine ⟨r2, rc2, ?_, Nat.le_trans KB.out.size HRB.out, ?_, KB2.out⟩
     ·have : n = K + 1 := by have := HK.out; omega
      rw [this]
      rfl
     ·have e : n = K + 1 := by have := HK.out; omega
      rw [e]
      exact PR2.out.congr (fun j hj _ => ⟨trivial, by rw [show K + 1 - 1 = K by omega]⟩)
end Go.Proofs.YtolkchkedieppaaGreat
