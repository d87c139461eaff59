/- A matrix of Rats in memory of a call's own; Zero of package linear. -/
import Derived.Test.YtcnaagiicpkcpaaGreatMRepR
import Derived.Test.YtcnaagiicpkcpaaGreatMPlainS
import Derived.Test.YtcnaagiicpkcpaaGreatMFun
set_option linter.unusedVariables false
set_option linter.unusedSimpArgs false
namespace Go.Proofs.YtcnaagiicpkcpaaGreat
open Go.RowKit
attribute [local go_sem ↓] Go.wp_at_zero Go.wp_at_succ
theorem RatIs.tight {w : World} {v : Value} {q : Rat} {m n : Nat} (h : RatIs w v q m) (hn : szQ q ≤ n) : RatIs w v q n := by
  obtain ⟨u, d, rfl, h1, h2, _, _⟩ := h
  exact ⟨u, d, rfl, h1, h2, Nat.le_trans (szQ_num q) hn, Nat.le_trans (szQ_den q) hn⟩
theorem RatIs.sz {w : World} {v : Value} {q : Rat} {m : Nat} (h : RatIs w v q m) : szQ q ≤ m := by
  obtain ⟨u, d, rfl, _, _, h3, h4⟩ := h
  exact szQ_le h3 h4
/-- a store of a Rat into another block, over a Rat -/
theorem RowP.far4 {w : World} {g n K b o : Nat} {P : Nat → Prop} {q : Nat → Rat} {s t : Bool} {a a2 : Option Addr} {m c m2 c2 : Nat} (h : RowP w g n P q K) (u0 u1 u2 u3 : Value)
    (hr : Rd4 w b o (.bool s) (.slice a m c) (.bool t) (.slice a2 m2 c2)) (hne : b ≠ g) : RowP (st4 w b o u0 u1 u2 u3) g n P q K :=
  ⟨fun j hj => by
    obtain ⟨s', a', m', c', a2', m2', c2', h1, h2⟩ := h.cell j hj
    exact ⟨s', a', m', c', a2', m2', c2', h1.far _ _ _ _ hne, fun p => (h2 p).at4 _ _ _ _ hr⟩,
   fun o' => by rw [frozen_st4]; exact h.f o', by rw [size_st4]; exact h.lt⟩
/-- a matrix of k rows: their headers in block g, row i in block rb i; all of it at or above block B -/
structure RMat (w : World) (B g k cols : Nat) (rb rc : Nat → Nat) (Q : Nat → Nat → Rat) (K : Nat) : Prop where
  hdr : ∀ i, i < k → w.cell? ⟨g, i, none⟩ = some (.slice (some ⟨rb i, 0, none⟩) cols (rc i))
  hf : ∀ o, w.frozen? ⟨g, o, none⟩ = false
  gB : B ≤ g
  gl : g < w.heap.size
  row : ∀ i, i < k → RatRow w (rb i) cols (Q i) K
  rB : ∀ i, i < k → B ≤ rb i
  ne : ∀ i, i < k → rb i ≠ g
  apart : ∀ i j, i < k → j < k → i ≠ j → rb i ≠ rb j
section
variable {w w' : World} {B g k cols K B' : Nat} {rb rc : Nat → Nat} {Q : Nat → Nat → Rat}
theorem RMat.below (h : RMat w B g k cols rb rc Q K) (hb : Below B' w w') (hB : w.heap.size ≤ B') : RMat w' B g k cols rb rc Q K :=
  ⟨fun i hi => bel1 hb (h.hdr i hi) (Nat.lt_of_lt_of_le h.gl hB), fun o => (hb.frozen (p := ⟨g, o, none⟩) (Nat.lt_of_lt_of_le h.gl hB)).trans (h.hf o), h.gB, Nat.lt_of_lt_of_le h.gl hb.size,
   fun i hi => (h.row i hi).below hb hB, h.rB, h.ne, h.apart⟩
theorem RMat.alloc (h : RMat w B g k cols rb rc Q K) (o : Obj) : RMat (w.alloc o) B g k cols rb rc Q K := h.below ((Below.refl w.heap.size w).alloc (Nat.le_refl _) o) (Nat.le_refl _)
theorem RMat.le {K' : Nat} (h : RMat w B g k cols rb rc Q K) (hK : K ≤ K') : RMat w B g k cols rb rc Q K' := ⟨h.hdr, h.hf, h.gB, h.gl, fun i hi => (h.row i hi).le hK, h.rB, h.ne, h.apart⟩
theorem RMat.congr {Q' : Nat → Nat → Rat} (h : RMat w B g k cols rb rc Q K) (e : ∀ i j, i < k → j < cols → Q i j = Q' i j) : RMat w B g k cols rb rc Q' K :=
  ⟨h.hdr, h.hf, h.gB, h.gl, fun i hi => (h.row i hi).congr (fun j hj _ => ⟨trivial, e i j hi hj⟩), h.rB, h.ne, h.apart⟩
/-- element (i, j) turned -/
def updM (Q : Nat → Nat → Rat) (i j : Nat) (x : Rat) (r c : Nat) : Rat := if r = i ∧ c = j then x else Q r c
theorem RMat.set {i j : Nat} {x : Rat} {s : Bool} {a a2 : Option Addr} {m c m2 c2 : Nat} (h : RMat w B g k cols rb rc Q K) (hi : i < k) (hj : j < cols)
    (hx : RatIs w (.agg #[.bool s, .slice a m c, .bool false, .slice a2 m2 c2]) x K) :
    RMat (st4 w (rb i) (j * 4) (.bool s) (.slice a m c) (.bool false) (.slice a2 m2 c2)) B g k cols rb rc (updM Q i j x) K := by
  obtain ⟨s', a', m', c', a2', m2', c2', hr, _⟩ := (h.row i hi).cell j hj
  refine ⟨fun r hr2 => (far4 _ _ _ _ (h.ne i hi)).trans (h.hdr r hr2), fun o => by rw [frozen_st4]; exact h.hf o, h.gB, by rw [size_st4]; exact h.gl, fun r hr2 => ?_, h.rB, h.ne, h.apart⟩
  by_cases e : r = i
  · subst e
    refine ((h.row r hi).set hj rfl hx).congr (fun l hl _ => ?_)
    by_cases e2 : l = j
    · exact ⟨.inl e2, by simp [updQ, updM, e2]⟩
    · exact ⟨.inr trivial, by simp [updQ, updM, e2]⟩
  · refine ((h.row r hr2).far4 _ _ _ _ hr (h.apart i r hi hr2 (fun q => e q.symm))).congr (fun l hl _ => ⟨trivial, ?_⟩)
    simp [updM, e]
/-- a store of a Rat into a block beside the matrix -/
theorem RMat.far {b o : Nat} {s t : Bool} {a a2 : Option Addr} {m c m2 c2 : Nat} (h : RMat w B g k cols rb rc Q K) (u0 u1 u2 u3 : Value)
    (hr : Rd4 w b o (.bool s) (.slice a m c) (.bool t) (.slice a2 m2 c2)) (hg : b ≠ g) (hb : ∀ i, i < k → b ≠ rb i) : RMat (st4 w b o u0 u1 u2 u3) B g k cols rb rc Q K :=
  ⟨fun r hr2 => (far4 _ _ _ _ hg).trans (h.hdr r hr2), fun o => by rw [frozen_st4]; exact h.hf o, h.gB, by rw [size_st4]; exact h.gl, fun r hr2 => (h.row r hr2).far4 _ _ _ _ hr (hb r hr2), h.rB, h.ne, h.apart⟩
end
theorem rat_zero (w : World) : Calls Tryz.prog 56 #[.int .i64 0] w fun e w' => ∃ s a n c a2 n2 c2, e = .returned (.agg #[.bool s, .slice a n c, .bool false, .slice a2 n2 c2]) ∧ Hid (RatIs w' (.agg #[.bool s, .slice a n c, .bool false, .slice a2 n2 c2]) 0 2) ∧ Below w.heap.size w w' := by
  refine (rat_whole 0 (by omega) (by omega) w).mono ?_
  rintro e w' ⟨r, rfl, hr, hb⟩
  obtain ⟨s, a, n, c, a2, n2, c2, rfl, H⟩ := hr.shape
  exact ⟨s, a, n, c, a2, n2, c2, rfl, H, hb⟩
/-- the headers, k of them laid -/
def hdrV (rb : Nat → Nat) (n k i : Nat) : Value := if i < k then .slice (some ⟨rb i, 0, none⟩) n n else .slice none 0 0
set_option maxHeartbeats 2000000 in
theorem zero_any (n : Nat) (h0 : 0 < n) (hn : n ≤ 8) (w : World) :
    Calls Tryz.prog 68 #[.int .i64 (n : Nat), .int .i64 (n : Nat)] w fun e w' => ∃ g rb, e = .returned (.slice (some ⟨g, 0, none⟩) n n) ∧ RMat w' w.heap.size g n n rb (fun _ => n) (fun _ _ => 0) 2 ∧ Below w.heap.size w w' := by
  have hmk := mkMn n (by omega)
  have HROW : Hid ((w.alloc (.cells (madeCells #[.slice none 0 0] n) 68)).rowIs w.heap.size 68 n (hdrV (fun _ => 0) n 0)) := Lib.hid ((World.rowIs_made w (.slice none 0 0) n 68).congr (fun i hi => by unfold hdrV; rw [if_neg (by omega)]))
  have KW0 := Lib.hid ((Below.refl w.heap.size w).alloc (Nat.le_refl _) (.cells (madeCells #[.slice none 0 0] n) 68))
  go_enter Tryz.func68, Tryz.ntmps68
  go_wp2
  go_loopw [6, 11] (fun v6 v11 wr => ∃ k : Nat, k ≤ n ∧ v11 = .int .i64 (k : Nat) ∧ ∃ rb, Hid (wr.rowIs w.heap.size 68 n (hdrV rb n k)) ∧ Hid (∀ i, i < k → RatRow wr (rb i) n (fun _ => 0) 2 ∧ w.heap.size < rb i) ∧ Hid (∀ i j, i < j → j < k → rb i ≠ rb j) ∧ Hid (Below w.heap.size w wr)) (fun _ v11 _ => n - (intOf v11).toNat)
  case atStart => exact ⟨0, by omega, rfl, _, HROW, Lib.hid (fun i hi => by omega), Lib.hid (fun i j h1 h2 => by omega), KW0⟩
  case round =>
    clear HROW KW0
    obtain ⟨k, hk, rfl, rb, HROW, HR, HA, KW⟩ := hrel
    by_cases h : k < n
    · have ix1 := fun W => ixL w.heap.size 0 n n k h W
      simp only [Nat.zero_add] at ix1
      have HWL := Lib.hid HROW.out.lt
      go_wp2_with (first
        | (go_at_call 56; (with_reducible refine (rat_zero _).mono ?_); rintro e w1 ⟨s1, a1, n1, c1, b1, m1, d1, rfl, K1, hb1⟩; have HB1 := Lib.hid hb1; clear hb1)
        | (go_at_call 82; go_loud ((with_reducible refine (repeat_rat _ _ n 0 2 _ _ _ _ _ _ _ _ h0 hn (own4_new _ _ rfl _ _ _ _ _) (K1.out.mono (boxes1 _ _) (Nat.le_refl _))).mono ?_); rintro e w2 ⟨R, rfl, PR, hRg, hb2⟩; have HB2 := Lib.hid (HB1.out.trans (((boxes1 w1 (.cells #[.bool s1, .slice a1 n1 c1, .bool false, .slice b1 m1 d1] 95)).trans (hb2.mono (by simp))).mono HB1.out.size)); have KW := Lib.hid (KW.out.trans (HB2.out.mono KW.out.size)); have HRG : Hid (wr.heap.size ≤ R) := Lib.hid (by have := HB1.out.size; simp at hRg; omega); have PR := Lib.hid PR; have HROW := Lib.hid (rowIs_below HROW.out HB2.out HROW.out.lt); have hc := HROW.out.cell h; have hfz := HROW.out.frozen k; clear hb2 hRg; have hc0 : hdrV rb n k k = .slice none 0 0 := (by unfold hdrV; rw [if_neg (by omega)]); rw [hc0] at hc; clear hc0)))
      go_roundw
      case rel =>
        have hlt : ∀ i, i < k → rb i < wr.heap.size := fun i hi => (HR.out i hi).1.lt
        refine ⟨k + 1, by omega, by go_num, setN rb k R, Lib.hid ((HROW.out.set k _).congr (fun i hi => ?_)), Lib.hid (fun i hi => ?_), Lib.hid (fun i j h1 h2 => ?_), Lib.hid (KW.out.setCell (Nat.le_refl _) _)⟩
        · unfold hdrV
          by_cases e : i = k
          · subst e; rw [if_pos rfl, if_pos (by omega), setN_self]
          · rw [if_neg e, setN_ne _ _ e]
            by_cases e2 : i < k
            · rw [if_pos e2, if_pos (by omega)]
            · rw [if_neg e2, if_neg (by omega)]
        · have hsz := HROW.out.lt
          by_cases e : i = k
          · subst e; rw [setN_self]
            have h1 := HRG.out
            have h2 := HWL.out
            exact ⟨RowP.storeFar PR.out _ hc (noInt_slice _ _ _) (by omega), by omega⟩
          · rw [setN_ne _ _ e]
            have h3 := HR.out i (by omega)
            exact ⟨RowP.storeFar (h3.1.below HB2.out (Nat.le_refl _)) _ hc (noInt_slice _ _ _) (by omega), h3.2⟩
        · by_cases e : j = k
          · subst e; rw [setN_self, setN_ne _ _ (by omega)]
            have h1 := hlt i h1; have := HRG.out; omega
          · rw [setN_ne _ _ e, setN_ne _ _ (by omega)]; exact HA.out i j h1 (by omega)
      case measure => simp [intOf]; omega
    · obtain rfl : k = n := by omega
      go_wp2
      go_ret
      refine ⟨w.heap.size, rb, rfl, ⟨fun i hi => ?_, fun o => HROW.out.frozen o, Nat.le_refl _, HROW.out.lt, fun i hi => (HR.out i hi).1, fun i hi => Nat.le_of_lt (HR.out i hi).2, fun i hi => by have := (HR.out i hi).2; omega, fun i j hi hj hij => ?_⟩, KW.out⟩
      · rw [HROW.out.cell hi]; unfold hdrV; rw [if_pos hi]
      · rcases Nat.lt_or_gt_of_ne hij with h1 | h1
        · exact HA.out i j h1 hj
        · exact fun e => HA.out j i h1 hi e.symm
end Go.Proofs.YtcnaagiicpkcpaaGreat
