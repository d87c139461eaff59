/- debt.cancel. -/
import Derived.Test.YtcnaagiicpkcpaaGreatMRelax
import Derived.Test.YtcnaagiicpkcpaaGreatMFun
set_option linter.unusedVariables false
set_option linter.unusedSimpArgs false
namespace Go.Proofs.YtcnaagiicpkcpaaGreat
open Go.RowKit
attribute [local go_sem ↓] Go.wp_at_zero Go.wp_at_succ
/-- what is left of debts -/
structure CInv (n : Nat) (d r : Nat → Nat → Int) : Prop where
 range : ∀ i j, i < n → j < n → 0 ≤ r i j ∧ r i j ≤ d i j
 bal : ∀ v, v < n → bal n r v = bal n d v
theorem sumF_nonneg {f : Nat → Int} {n : Nat} (h : ∀ i, i < n → 0 ≤ f i) : 0 ≤ sumF f n := by
 induction n with
 | zero => exact Int.le_refl _
 | succ n ih => simp only [sumF]; have := ih (fun i hi => h i (by omega)); have := h n (by omega); omega
theorem sum2_nonneg {n : Nat} {f : Nat → Nat → Int} (h : ∀ i j, i < n → j < n → 0 ≤ f i j) : 0 ≤ sum2 n f := sumF_nonneg (fun i hi => sumF_nonneg (fun j hj => h i j hi hj))
theorem most_pos {n m : Nat} {l : Nat → Arc} {d r : Nat → Nat → Int} (h : ArcsOK n m l d r) (hr : ∀ i j, i < n → j < n → 0 ≤ r i j ∧ r i j ≤ d i j ∧ d i j ≤ 1000) (k : Nat) (hk : k < m) : 0 < (l k).most ∧ (l k).most ≤ 1000 := by
 obtain ⟨h1, h2, _, h4⟩ := h.sound k hk
 have h5 := hr _ _ h1 h2
 rcases h4 with ⟨_, _, _, e1, e2⟩ | ⟨_, _, _, e1, e2⟩
 ·rw [e2]; omega
 ·rw [e2]; omega
theorem along_small {n m : Nat} {l : Nat → Arc} {d r : Nat → Nat → Int} {b : Nat → Int} {y p : Nat} {mst : Int} (h : ArcsOK n m l d r) (hr : IsRing n m l b y p) (h0 : 0 ≤ mst) (h1 : mst ≤ 1000) (i j s : Nat) (hs : s ≤ p) (hij : 0 ≤ r i j ∧ r i j ≤ 1000) :
  -1000 ≤ along l b y mst r s i j ∧ along l b y mst r s i j ≤ 2000 := by
 classical
 rw [along_val (mst := mst) h hr i j s hs]
 split <;> split <;> omega
theorem CInv.along {n m : Nat} {l : Nat → Arc} {d r : Nat → Nat → Int} {b : Nat → Int} {y p : Nat} {mst : Int} (hc : CInv n d r) (h : ArcsOK n m l d r) (hr : IsRing n m l b y p) (h0 : 0 < mst) (hm : ∀ s, s < p → mst ≤ (l (b (iter (fromF l b) s y)).toNat).most) (hneg : ringC l b y p < 0) :
  CInv n d (along l b y mst r p) ∧ (sum2 n (along l b y mst r p)).toNat < (sum2 n r).toNat := by
 have hrange : ∀ i j, i < n → j < n → 0 ≤ Go.Proofs.YtcnaagiicpkcpaaGreat.along l b y mst r p i j ∧ Go.Proofs.YtcnaagiicpkcpaaGreat.along l b y mst r p i j ≤ d i j := fun i j hi hj => along_range h hr (Int.le_of_lt h0) hm i j (hc.range i j hi hj)
 refine ⟨⟨hrange, fun v hv => ?_⟩, ?_⟩
 ·rw [along_bal h hr v p, hr.back, hc.bal v hv]; omega
 ·have h1 := along_sum (mst := mst) h hr p
  have h2 := sum2_nonneg (n := n) (f := Go.Proofs.YtcnaagiicpkcpaaGreat.along l b y mst r p) (fun i j hi hj => (hrange i j hi hj).1)
  have h3 : ringC l b y p * mst < 0 := Int.mul_neg_of_neg_of_pos hneg h0
  omega
theorem ArcRow.setFar {w : World} {g m R b o : Nat} {l : Nat → Arc} (h : ArcRow w g m R l) (hne : b ≠ g) (v : Value) : ArcRow (w.setCell ⟨b, o, none⟩ v) g m R l :=
 ⟨fun k hk => (far_set _ _ _ _ _ _ hne).trans (h.c0 k hk), fun k hk => (far_set _ _ _ _ _ _ hne).trans (h.c1 k hk), fun k hk => (far_set _ _ _ _ _ _ hne).trans (h.c2 k hk), fun k hk => (far_set _ _ _ _ _ _ hne).trans (h.c3 k hk), fun k hk => (far_set _ _ _ _ _ _ hne).trans (h.c4 k hk), by simp only [World.setCell, Array.size_modify]; exact h.lt⟩
theorem own_arcs {w : World} {base m R : Nat} {va : Option Addr} {vk : Nat} {L : List Arc} (h : w.ownsRow base 108 5 (.slice va m vk) m (arcCs R L)) (hm : m = L.length) :
  ∃ g, (0 < m → va = some ⟨g, 0, none⟩) ∧ (0 < m → ArcRow w g m R (arcF L)) := by
 by_cases h0 : 0 < m
 ·obtain ⟨g, cap, hv, hb, hg⟩ := h.form h0
  cases hv
  exact ⟨g, fun _ => rfl, fun _ => ArcRow.of_own h (fun k hk => arcF_get L k (by omega)) hg⟩
 ·exact ⟨0, fun e => absurd e h0, fun e => absurd e h0⟩
theorem OwnMat.end_ {w : World} {R n : Nat} {r : Nat → Nat → Int} (h : OwnMat w R n r) (h0 : 0 < n) : R + 1 + n ≤ w.heap.size := by
 have := (h.row (n - 1) (by omega)).lt
 omega
theorem eql_nilA_some (x : Addr) (l c : Nat) (W : World) : (binOp .eql 102 (.slice (some x) l c) (.slice none 0 0)).run Tryz.prog W = .ok (.bool false) W :=
 by
 simp only [binOp]
 simp [run_equal_slice_nil W 102 108 (some x) l c Tryz.underlying102]
theorem eql_nilA_none (W : World) : (binOp .eql 102 (.slice none 0 0) (.slice none 0 0)).run Tryz.prog W = .ok (.bool true) W :=
 by
 simp only [binOp]
 simp [run_equal_slice_nil W 102 108 none 0 0 Tryz.underlying102]
def CancelPost (w0 : World) (n : Nat) (d : Nat → Nat → Int) (e : Ending) (w' : World) : Prop :=
 ∃ (R C : Nat) (r : Nat → Nat → Int) (cost : Nat → Int), e = .returned (.tuple #[.slice (some ⟨R, 0, none⟩) n n, .slice (some ⟨C, 0, none⟩) n n]) ∧ OwnMat w' R n r ∧ w'.rowIs C 3 n (ic cost) ∧ CInv n d r ∧ w0.heap.size ≤ R ∧ w0.heap.size ≤ C ∧ (∀ v, v < n → -1000 ≤ cost v ∧ cost v ≤ 0) ∧
  (∀ i j, i < n → j < n → (r i j < d i j → cost j ≤ cost i + 1) ∧ (0 < r i j → cost i + 1 ≤ cost j)) ∧ Below w0.heap.size w0 w'
set_option maxHeartbeats 4000000 in
set_option maxRecDepth 100000 in
theorem cancel_any (v : Value) (n : Nat) (d : Nat → Nat → Int) (w : World) (hv : Mat w v n (fun _ => n) d) (h0 : 0 < n) (hn : n ≤ 8) (hd : ∀ i j, i < n → j < n → 0 ≤ d i j ∧ d i j ≤ 1000) (hz : ∀ i, i < n → d i i = 0) :
  Calls Tryz.prog 39 #[v] w fun e w' => CancelPost w n d e w' := by
 have HV := Lib.hid hv
 have HD := Lib.hid hd
 have HZ := Lib.hid hz
 have heq1 := eql_nilA_some
 have heq2 := eql_nilA_none
 clear hv hd hz
 go_enter Tryz.func39, Tryz.ntmps39
 go_wp2_with (first
  | (go_at_call 58; (with_reducible refine (copied_any v n d _ HV.out h0 hn).mono ?_); rintro e w1 ⟨rfl, ho, hs1, hb1⟩; have OM := Lib.hid ho; have KW := Lib.hid hb1; clear ho hs1 hb1))
 go_loopg [6] ((sum2 n d).toNat) (fun gk v6 wr => ∃ r : Nat → Nat → Int, (sum2 n r).toNat = gk ∧ Hid (OwnMat wr w.heap.size n r) ∧ Hid (CInv n d r) ∧ Hid (Below w.heap.size w wr))
 case atStart => exact ⟨d, rfl, OM, Lib.hid ⟨fun i j hi hj => ⟨(HD.out i j hi hj).1, Int.le_refl _⟩, fun v _ => rfl⟩, KW⟩
 case round =>
  clear OM KW
  obtain ⟨r, hgk, OM, CI, KW⟩ := hrel
  have HGK := Lib.hid hgk
  clear hgk
  have hend := OM.out.end_ h0
  have HR : Hid (∀ i j, i < n → j < n → 0 ≤ r i j ∧ r i j ≤ d i j ∧ d i j ≤ 1000) := Lib.hid (fun i j hi hj => ⟨(CI.out.range i j hi hj).1, (CI.out.range i j hi hj).2, (HD.out i j hi hj).2⟩)
  have hok := arcs_ok (n := n) (d := d) (r := r) CI.out.range HZ.out
  have hlen := arcs_len (n := n) (d := d) (r := r) CI.out.range HZ.out n (Nat.le_refl _)
  have hcost := fun k hk => arcs_cost (d := d) (r := r) (n := n) k hk
  have hmul : 2 * (n - 1) * n ≤ 2 * 7 * 8 := Nat.mul_le_mul (by omega) (by omega)
  have HOK := Lib.hid hok
  have HCOST := Lib.hid hcost
  have HLEN : Hid ((arcsAll d r n n).length ≤ 112) := Lib.hid (by omega)
  have HEND := Lib.hid hend
  clear hok hlen hcost hmul hend
  go_wp2_with (first
   | (go_at_call 60; (with_reducible refine (arcs_any v _ n d r _ (HV.out.mono KW.out (Nat.le_refl _)) OM.out hn HEND.out HR.out).mono ?_); rintro e w2 ⟨va, vk, rfl, hown, hb2⟩; obtain ⟨g, hva, hrow⟩ := own_arcs hown rfl; have HVA := Lib.hid hva; have HROW := Lib.hid hrow; have HCAP := Lib.hid (own_cap hown); have HB2 := Lib.hid hb2; clear hown hva hrow hb2))
  have KW2 := Lib.hid (KW.out.trans (HB2.out.mono KW.out.size))
  have OM := Lib.hid (OM.out.below HB2.out HEND.out)
  refine (relax_any n (arcsAll d r n n).length g _ vk va (arcF (arcsAll d r n n)) _ h0 hn (by have := HLEN.out; omega) HVA.out HCAP.out HROW.out HOK.out.arcsIn HCOST.out).mono ?_
  rintro e w3 ⟨⟨C, cost, rfl, hC, hCl, hfe, hlow⟩ | ⟨C, b, y, p, G, cap, rfl, hring, hpn, hpc, hneg, hG, hGl⟩, hb3⟩
  ·have HC := Lib.hid hC
   have HFE := Lib.hid hfe
   have HLOW := Lib.hid hlow
   have HB3 := Lib.hid hb3
   clear hC hfe hlow hb3
   go_wp2
   go_ret2
   have hmul : n * (arcsAll d r n n).length ≤ 8 * 112 := Nat.mul_le_mul hn HLEN.out
   refine ⟨w.heap.size, C, r, cost, rfl, OM.out.below HB3.out (by have := HEND.out; have := HB2.out.size; omega), HC.out, CI.out, Nat.le_refl _, by have := KW2.out.size; omega, fun v hv => ?_, fun i j hi hj => ⟨fun hlt => ?_, fun hlt => ?_⟩, KW2.out.trans (HB3.out.mono KW2.out.size)⟩
   ·have := HLOW.out v hv; omega
   ·obtain ⟨k, hk, e1, e2, e3⟩ := HOK.out.fwd i j hi hj hlt
    have := HFE.out k hk
    rw [e1, e2, e3] at this; exact this
   ·obtain ⟨k, hk, e1, e2, e3⟩ := HOK.out.bwd i j hi hj hlt
    have := HFE.out k hk
    rw [e1, e2, e3] at this; omega
  ·have HRING := Lib.hid hring
   have HNEG := Lib.hid hneg
   have AR := Lib.hid hG
   have OM := Lib.hid (OM.out.below hb3 (by have := HEND.out; have := HB2.out.size; omega))
   have KW := Lib.hid (KW2.out.trans (hb3.mono KW2.out.size))
   have HGR : Hid (w.heap.size + 1 + n ≤ G) := Lib.hid (by have := HEND.out; have := HB2.out.size; omega)
   have hp0 := hring.pos
   have h3 := hG.c3 0 hp0
   simp only [Nat.zero_mul, Nat.zero_add] at h3
   have HM0 : Hid (∀ s, s < p → 0 < (arcF (arcsAll d r n n) (b (iter (fromF (arcF (arcsAll d r n n)) b) s y)).toNat).most ∧ (arcF (arcsAll d r n n) (b (iter (fromF (arcF (arcsAll d r n n)) b) s y)).toNat).most ≤ 1000) := Lib.hid (fun s hs => most_pos HOK.out HR.out _ (hring.arc s).1)
   have HM1 : Hid (∀ s, (arcF (arcsAll d r n n) (b (iter (fromF (arcF (arcsAll d r n n)) b) s y)).toNat).pi < n ∧ (arcF (arcsAll d r n n) (b (iter (fromF (arcF (arcsAll d r n n)) b) s y)).toNat).pj < n) := Lib.hid (fun s => by
    obtain ⟨q1, q2, _⟩ := HOK.out.sound _ (hring.arc s).1
    exact ⟨q1, q2⟩)
   have HM2 : Hid (∀ s, (arcF (arcsAll d r n n) (b (iter (fromF (arcF (arcsAll d r n n)) b) s y)).toNat).c = 1 ∨ (arcF (arcsAll d r n n) (b (iter (fromF (arcF (arcsAll d r n n)) b) s y)).toNat).c = -1) := Lib.hid (fun s => HCOST.out _ (hring.arc s).1)
   clear hring hneg hG hb3 HCOST HROW HVA HB2 KW2
   generalize arcF (arcsAll d r n n) = l at *
   generalize (arcsAll d r n n).length = m at *
   obtain ⟨f, hf⟩ : ∃ f : Nat → Arc, (fun s => l (b (iter (fromF l b) s y)).toNat) = f := ⟨_, rfl⟩
   have hfs : ∀ s, l (b (iter (fromF l b) s y)).toNat = f s := fun s => congrFun hf s
   simp only [hfs] at HM0 HM1 HM2 h3
   rw [hf] at AR
   have HFS := Lib.hid hfs
   clear hf hfs
   have hm0 := HM0.out 0 hp0
   have p0 : (0 : Int) < (p : Int) := by omega
   have hpn2 : ¬ p = 0 := by omega
   have KW2 := Lib.hid (Below.refl w3.heap.size w3)
   go_wp2
   go_loopw [7, 33] (fun v7 v33 wr => ∃ k : Nat, k ≤ p ∧ v33 = .int .i64 (k : Nat) ∧ ∃ x : Int, v7 = .int .i64 x ∧ 0 < x ∧ x ≤ 1000 ∧ Hid (∀ t, t < k → x ≤ (f t).most) ∧ Hid (Below w3.heap.size w3 wr)) (fun _ v33 _ => p - (intOf v33).toNat)
   case atStart => exact ⟨0, by omega, rfl, (f 0).most, rfl, hm0.1, hm0.2, Lib.hid (fun t ht => by omega), KW2⟩
   case round =>
    clear KW2 h3 hm0
    obtain ⟨k, hk, rfl, x, rfl, hx0, hx1, HX, KW2⟩ := hrel
    by_cases h : k < p
    ·have ha := AR.out.below KW2.out AR.out.lt
     have a0 := ha.c0 k h
     have a1 := ha.c1 k h
     have a2 := ha.c2 k h
     have a3 := ha.c3 k h
     have a4 := ha.c4 k h
     clear ha
     have g1 : (0 : Int) ≤ (k : Int) := Int.natCast_nonneg k
     have g2 : (k : Int) < (p : Int) := by omega
     go_wp2
     go_roundw
     case rel =>
      have hk2 := HM0.out k h
      refine ⟨k + 1, by omega, by go_num, min x (f k).most, rfl, by omega, by omega, Lib.hid (fun t ht => ?_), Lib.hid (KW2.out.alloc KW2.out.size _)⟩
      by_cases e : t = k
      ·subst e; omega
      ·have := HX.out t (by omega); omega
     case measure => simp [intOf]; omega
    ·obtain rfl : k = p := by omega
     generalize wr = wo at *
     have OM := Lib.hid (OM.out.below KW2.out (by have := OM.out.end_ h0; omega))
     have AR := Lib.hid (AR.out.below KW2.out AR.out.lt)
     have KW := Lib.hid (KW.out.trans (KW2.out.mono KW.out.size))
     go_wp2
     go_loopw [44] (fun v44 wr => ∃ s : Nat, s ≤ k ∧ v44 = .int .i64 (s : Nat) ∧ Hid (OwnMat wr w.heap.size n (along l b y x r s)) ∧ Hid (ArcRow wr G k w.heap.size f) ∧ Hid (Below w.heap.size w wr)) (fun v44 _ => k - (intOf v44).toNat)
     case atStart => exact ⟨0, by omega, rfl, OM, AR, KW⟩
     case round =>
      clear OM AR KW KW2
      obtain ⟨s, hs, rfl, OM, AR, KW⟩ := hrel
      by_cases h2 : s < k
      ·have ha := AR.out
       have a0 := ha.c0 s h2
       have a1 := ha.c1 s h2
       have a2 := ha.c2 s h2
       have a3 := ha.c3 s h2
       have a4 := ha.c4 s h2
       clear ha
       have g1 : (0 : Int) ≤ (s : Int) := Int.natCast_nonneg s
       have g2 : (s : Int) < (k : Int) := by omega
       go_wp2
       have n5 := new5 wr w.heap.size (f s) 108
       have b2 := n5 2 _ rfl
       have b4 := n5 4 _ rfl
       have hadd : ∀ j, (⟨wr.heap.size, 0, none⟩ : Addr).add j = ⟨wr.heap.size, j, none⟩ := fun j => by unfold Addr.add; split <;> simp_all
       simp only [hadd, arcC] at b2 b4
       clear hadd n5 a0 a1 a2 a3 a4
       obtain ⟨q1, q2⟩ := HM1.out s
       have hrow := OM.out.row _ q1
       have hne : ¬ w.heap.size + 1 + (f s).pi = wr.heap.size := by have := hrow.lt; omega
       have hne2 : ¬ wr.heap.size = w.heap.size + 1 + (f s).pi := fun e => hne e.symm
       have OM := Lib.hid (show OwnMat (wr.alloc (.cells (arcC w.heap.size (f s)).toArray 108)) w.heap.size n (along l b y x r s) from OM.out.below ((Below.refl wr.heap.size wr).alloc (Nat.le_refl _) _) (OM.out.end_ h0))
       have AR := Lib.hid (show ArcRow (wr.alloc (.cells (arcC w.heap.size (f s)).toArray 108)) G k w.heap.size f from AR.out.below ((Below.refl wr.heap.size wr).alloc (Nat.le_refl _) _) AR.out.lt)
       have KW := Lib.hid (KW.out.alloc KW.out.size (.cells (arcC w.heap.size (f s)).toArray 108))
       simp only [arcC] at OM AR KW
       generalize wr.alloc _ = wA at b2 b4 OM AR KW ⊢
       generalize wr.heap.size = H at b2 b4 hne hne2 ⊢
       have hrow := OM.out.row _ q1
       have hcell := hrow.cell q2
       have hfr := hrow.frozen (f s).pj
       have hsm := along_small (mst := x) HOK.out HRING.out (Int.le_of_lt hx0) hx1 (f s).pi (f s).pj s (by omega) ⟨(HR.out _ _ q1 q2).1, by have := HR.out _ _ q1 q2; omega⟩
       have hc1 := HM2.out s
       have hcx : -1000 ≤ (f s).c * x ∧ (f s).c * x ≤ 1000 := by rcases hc1 with e | e <;> rw [e] <;> omega
       have hw1 : IntKind.i64.wrap ((f s).c * x) = (f s).c * x := by rw [IntKind.wrap_i64]; omega
       have hw2 : IntKind.i64.wrap (along l b y x r s (f s).pi (f s).pj + (f s).c * x) = along l b y x r s (f s).pi (f s).pj + (f s).c * x := by rw [IntKind.wrap_i64]; omega
       simp only [ic] at hcell
       clear hrow hsm hc1 hcx
       go_wp2
       go_region
       go_wp2
       go_roundw
       case rel =>
        have e : along l b y x r (s + 1) = upd2 (along l b y x r s) (f s).pi (f s).pj (along l b y x r s (f s).pi (f s).pj + (f s).c * x) := by
         simp only [along]; rw [HFS.out s]
        refine ⟨s + 1, by omega, by go_num, ?_, ?_, ?_⟩
        ·rw [e]
         have hh := OM.out.set q1 (j := (f s).pj) (along l b y x r s (f s).pi (f s).pj + (f s).c * x)
         exact Lib.hid ⟨hh.top.drew, fun i hi => (hh.row i hi).drew⟩
        ·have hh := AR.out.setFar (b := w.heap.size + 1 + (f s).pi) (o := (f s).pj) (by have := HGR.out; omega) (.int .i64 (along l b y x r s (f s).pi (f s).pj + (f s).c * x))
         exact Lib.hid ⟨hh.c0, hh.c1, hh.c2, hh.c3, hh.c4, hh.lt⟩
        ·exact Lib.hid (KW.out.setCell (by show w.heap.size ≤ w.heap.size + 1 + (f s).pi; omega) _).drew
       case measure => simp [intOf]; omega
      ·obtain rfl : s = k := by omega
       go_wp2
       have hall := CI.out.along (mst := x) HOK.out HRING.out hx0 (fun t ht => by rw [HFS.out t]; exact HX.out t ht) HNEG.out
       go_roundg ((sum2 n (along l b y x r s)).toNat)
       case measure => rw [← HGK.out]; exact hall.2
       case rel => exact ⟨along l b y x r s, rfl, OM, Lib.hid hall.1, KW⟩
end Go.Proofs.YtcnaagiicpkcpaaGreat

/- debt.sum, debt.Cancel, debt.Prices. -/
namespace Go.Proofs.YtcnaagiicpkcpaaGreat
open Go.RowKit
attribute [local go_sem ↓] Go.wp_at_zero Go.wp_at_succ
set_option maxHeartbeats 2000000 in
set_option maxRecDepth 100000 in
theorem dsum_any (v : Value) (n : Nat) (f : Nat → Nat → Int) (w : World) (hv : Mat w v n (fun _ => n) f) (hn : n ≤ 8) (hf : ∀ i j, i < n → j < n → 0 ≤ f i j ∧ f i j ≤ 1000) :
  Calls Tryz.prog 40 #[v] w fun e w' => e = .returned (.int .i64 (sum2 n f)) ∧ Drawn w w' := by
 obtain ⟨a, b, o, c, ra, rb, ro, rc, rfl, hs⟩ := hv
 have HF := Lib.hid hf
 have HS := Lib.hid hs
 have HRB : Hid (∀ k j, k < n → j ≤ n → 0 ≤ sumF (f k) j ∧ sumF (f k) j ≤ 8000) := Lib.hid (fun k j hk hj => by
  have h1 := sumF_nonneg (n := j) (f := f k) (fun i hi => (HF.out k i hk (by omega)).1)
  have h2 := sumF_bound (f k) j 1000 (fun i hi => by have := HF.out k i hk (by omega); omega)
  omega)
 have HTB : Hid (∀ k, k ≤ n → 0 ≤ sumF (fun i => sumF (f i) n) k ∧ sumF (fun i => sumF (f i) n) k ≤ 64000) := Lib.hid (fun k hk => by
  have h1 := sumF_nonneg (n := k) (f := fun i => sumF (f i) n) (fun i hi => (HRB.out i n (by omega) (Nat.le_refl _)).1)
  have h2 := sumF_bound (fun i => sumF (f i) n) k 8000 (fun i hi => by have := HRB.out i n (by omega) (Nat.le_refl _); omega)
  omega)
 clear hf hs
 go_enter Tryz.func40, Tryz.ntmps40
 go_wp2
 go_loopw [3, 10] (fun s i wr => ∃ k : Nat, k ≤ n ∧ i = .int .i64 (k : Nat) ∧ s = .int .i64 (sumF (fun i => sumF (f i) n) k) ∧ Hid (Drawn w wr)) (fun _ i _ => n - (intOf i).toNat)
 case atStart => exact ⟨0, by omega, rfl, rfl, Lib.hid (Drawn.refl _)⟩
 case round =>
  obtain ⟨k, hk, rfl, rfl, hd⟩ := hrel
  by_cases h : k < n
  ·have hm := HS.out.drawn hd.out
   have hix := fun W => ixM hm.top k c h W
   have hcr := hm.top.cell k h
   clear hm
   go_wp2
   go_loopw [3, 16] (fun s i wr => ∃ j : Nat, j ≤ n ∧ i = .int .i64 (j : Nat) ∧ s = .int .i64 (sumF (fun i => sumF (f i) n) k + sumF (f k) j) ∧ Hid (Drawn w wr)) (fun _ i _ => n - (intOf i).toNat)
   case atStart => exact ⟨0, by omega, rfl, by simp [sumF], hd⟩
   case round =>
    clear hd hcr hix
    obtain ⟨j, hj, rfl, rfl, hd⟩ := hrel
    by_cases h2 : j < n
    ·have hm := (HS.out.drawn hd.out).row k h
     have hix := fun W => ixI hm j (rc k) h2 W
     have hc := hm.cell j h2
     simp only [ic] at hc
     have b1 := HF.out k j h h2
     have b2 := HRB.out k j h hj
     have b3 := HTB.out k hk
     have hw : IntKind.i64.wrap (sumF (fun i => sumF (f i) n) k + sumF (f k) j + f k j) = sumF (fun i => sumF (f i) n) k + sumF (f k) j + f k j := by rw [IntKind.wrap_i64]; omega
     clear hm b1 b2 b3
     go_wp2
     go_roundw
     case rel => exact ⟨j + 1, by omega, by go_num, by simp only [sumF]; rw [Int.add_assoc], hd⟩
     case measure => simp [intOf]; omega
    ·obtain rfl : j = n := by omega
     go_wp2
     go_roundw
     case rel => exact ⟨k + 1, by omega, by go_num, rfl, hd⟩
     case measure => simp [intOf]; omega
  ·obtain rfl : k = n := by omega
   go_wp2
   go_ret
   exact ⟨rfl, hd.out⟩
/-- what is left of debts, and prices that prove that it is least -/
structure Opt (n : Nat) (d r : Nat → Nat → Int) (p : Nat → Int) : Prop where
 inv : CInv n d r
 up : ∀ i j, i < n → j < n → r i j < d i j → p j ≤ p i + 1
 down : ∀ i j, i < n → j < n → 0 < r i j → p i + 1 ≤ p j
theorem sum2_small {n : Nat} {f : Nat → Nat → Int} (hn : n ≤ 8) (hf : ∀ i j, i < n → j < n → 0 ≤ f i j ∧ f i j ≤ 1000) : 0 ≤ sum2 n f ∧ sum2 n f ≤ 64000 := by
 have h2 := sumF_bound (fun i => sumF (f i) n) n 8000 (fun i hi => by
  have h1 := sumF_nonneg (n := n) (f := f i) (fun j hj => (hf i j hi hj).1)
  have h2 := sumF_bound (f i) n 1000 (fun j hj => by have := hf i j hi hj; omega)
  omega)
 have h1 := sum2_nonneg (n := n) (f := f) (fun i j hi hj => (hf i j hi hj).1)
 unfold sum2 at *
 omega
set_option maxHeartbeats 2000000 in
set_option maxRecDepth 100000 in
theorem Cancel_ok (v : Value) (n : Nat) (m : Nat → Nat) (d : Nat → Nat → Int) (w : World) (hv : Mat w v n m d) (hD : Debts n m d) :
  Calls Tryz.prog 26 #[v] w fun e w' => ∃ (R : Nat) (r : Nat → Nat → Int) (p : Nat → Int), e = .returned (.tuple #[.slice (some ⟨R, 0, none⟩) n n, .int .i64 (sum2 n d - sum2 n r), .int .i64 0]) ∧ OwnMat w' R n r ∧ Opt n d r p ∧ (∀ v, v < n → -1000 ≤ p v ∧ p v ≤ 0) ∧ w.heap.size ≤ R ∧ Below w.heap.size w w' := by
 have HV := Lib.hid hv
 have HD := Lib.hid hD
 obtain ⟨h1, h2, h3⟩ := hD
 have HV2 := Lib.hid (hv.row_len (m' := fun _ => n) (fun i hi => (h3 i hi).1))
 have HDD : Hid (∀ i j, i < n → j < n → 0 ≤ d i j ∧ d i j ≤ 1000) := Lib.hid (fun i j hi hj => (h3 i hi).2.2 j hj)
 have HDZ : Hid (∀ i, i < n → d i i = 0) := Lib.hid (fun i hi => (h3 i hi).2.1)
 have HM8 : Hid (∀ i, i < n → m i ≤ 1048576) := Lib.hid (fun i hi => by rw [(h3 i hi).1]; omega)
 clear hv h3
 go_enter Tryz.func26, Tryz.ntmps26
 go_wp2_with (first
  | (go_at_call 38; (with_reducible refine (square_any v n m d true ⟨fun _ => HD.out, fun _ => rfl⟩ _ HV.out (by omega) HM8.out).mono ?_); rintro e w1 ⟨rfl, hd1⟩; have KW := Lib.hid (hd1.below w.heap.size); have HV2 := Lib.hid (HV2.out.drawn hd1); have HS1 := Lib.hid KW.out.size; clear hd1)
  | (go_at_call 39; (with_reducible refine (cancel_any v n d _ HV2.out (by omega) h2 HDD.out HDZ.out).mono ?_); rintro e w2 ⟨R, C, r, p, rfl, hr, hc, hci, hR, hC, hp, hopt, hb2⟩; have OM := Lib.hid hr; have CI := Lib.hid hci; have HP := Lib.hid hp; have HOPT := Lib.hid hopt; have KW := Lib.hid (KW.out.trans (hb2.mono HS1.out)); have HV2 := Lib.hid (HV2.out.mono hb2 (Nat.le_refl _)); have HRR := Lib.hid (Nat.le_trans HS1.out hR); have HSM := Lib.hid (sum2_small h2 HDD.out); have HSR : Hid (0 ≤ sum2 n r ∧ sum2 n r ≤ 64000) := Lib.hid (sum2_small h2 (fun i j hi hj => by have := CI.out.range i j hi hj; have := HDD.out i j hi hj; omega)); clear hr hc hci hp hopt hb2)
  | (go_at_call 40; (with_reducible refine (dsum_any v n d _ HV2.out h2 HDD.out).mono ?_); rintro e w3 ⟨rfl, hd3⟩; have OM := Lib.hid (OM.out.below (hd3.below _) (Nat.le_trans (OM.out.end_ (by omega)) (Nat.le_refl _))); have KW := Lib.hid (KW.out.trans (hd3.below _)); clear hd3)
  | (go_at_call 40; (with_reducible refine (dsum_any _ n r _ OM.out.mat h2 (fun i j hi hj => by have := CI.out.range i j hi hj; have := HDD.out i j hi hj; omega)).mono ?_); rintro e w4 ⟨rfl, hd4⟩; have OM := Lib.hid (OM.out.below (hd4.below _) (Nat.le_trans (OM.out.end_ (by omega)) (Nat.le_refl _))); have KW := Lib.hid (KW.out.trans (hd4.below _)); have hwr : IntKind.i64.wrap (sum2 n d - sum2 n r) = sum2 n d - sum2 n r := (by have := HSM.out; have := HSR.out; rw [IntKind.wrap_i64]; omega); clear hd4))
 go_ret3
 exact ⟨R, r, p, rfl, OM.out, ⟨CI.out, fun i j hi hj => (HOPT.out i j hi hj).1, fun i j hi hj => (HOPT.out i j hi hj).2⟩, HP.out, HRR.out, KW.out⟩
end Go.Proofs.YtcnaagiicpkcpaaGreat
