/- Settle's payments: compared, sorted. -/
import Derived.Test.YtcnaagiicpkcpaaGreatMSortSh
import Derived.Test.YtcnaagiicpkcpaaGreatMShelf
import Derived.Test.YtcnaagiicpkcpaaGreatMStlA
import Derived.Test.YtcnaagiicpkcpaaGreatMGrpB
import Derived.Test.YtcnaagiicpkcpaaGreatMGrp3
import Derived.Test.YtcnaagiicpkcpaaGreatMRing
import Derived.Deep.AppendLies
import Derived.Deep.RegionLaw
import Derived.Deep.RegionHeld3
import Derived.Test.YtcnaagiicpkcpaaGreatMFun
set_option linter.unusedVariables false
set_option linter.unusedSimpArgs false
namespace Go.Proofs.YtcnaagiicpkcpaaGreat
open Go.RowKit Go.Sort Go.Shelf Go.Lib
attribute [local go_sem ↓] Go.wp_at_zero Go.wp_at_succ
/-- a payment's cells -/
def payC (x : Pmt) : List Value := [.int .i64 (x.fr : Nat), .int .i64 (x.rc : Nat), .int .i64 x.am]
def payL : List Pmt → List Value
  | [] => []
  | x :: l => payC x ++ payL l
theorem payL_app (a b : List Pmt) : payL (a ++ b) = payL a ++ payL b := by
  induction a with
  | nil => rfl
  | cons x a ih => simp [payL, ih]
theorem payL_get : ∀ (P : List Pmt) (t : Nat) (h : t < P.length * 3), (payL P)[t]? = (payC (P.getD (t / 3) default))[t % 3]?
  | [], t, h => by simp at h
  | x :: l, t, h => by
    simp only [payL]
    by_cases h3 : t < 3
    · rw [List.getElem?_append_left (by simp [payC]; omega)]
      rw [show t / 3 = 0 by omega, show t % 3 = t by omega]; rfl
    · rw [List.getElem?_append_right (by simp [payC]; omega)]
      have e : t - (payC x).length = t - 3 := rfl
      rw [e, payL_get l (t - 3) (by simp at h; omega), show t / 3 = (t - 3) / 3 + 1 by omega, show (t - 3) % 3 = t % 3 by omega]
      rfl
def prF (x : Pmt) : Nat → Int := fun j => if j = 0 then (x.fr : Int) else (x.rc : Int)
theorem two_ints (w : World) (x : Pmt) : Ints (w.alloc (.cells #[.int .i64 (x.fr : Nat), .int .i64 (x.rc : Nat)] 3)) (.slice (some ⟨w.heap.size, 0, none⟩) 2 2) 2 (prF x) :=
  ints_of_own (base := w.heap.size) ⟨rfl, .inr ⟨w.heap.size, 2, #[.int .i64 (x.fr : Nat), .int .i64 (x.rc : Nat)], rfl, Nat.le_refl _, heap_alloc_new w _, by omega, by unfold maxLen; omega, rfl, rfl⟩⟩
theorem lex_pay (x y : Pmt) : lexC (prF x) (prF y) 2 2 2 0 = cmpP x y := by
  simp only [lexC, prF, cmp3, cmpP]
  repeat' split
  all_goals (first | rfl | omega | (exfalso; simp at *; omega) | (simp at *; done) | (simp at *; omega))
theorem grow4 (W : World) (a b c d : Obj) : ∃ q os', (((W.alloc a).alloc b).alloc c).alloc d = grow (W.drewN q) os' :=
  ⟨0, #[a] ++ #[b] ++ #[c] ++ #[d], by rw [alloc_eq_grow, alloc_eq_grow, alloc_eq_grow, alloc_eq_grow, grow_grow, grow_grow, grow_grow]; rfl⟩
set_option maxHeartbeats 1000000 in
set_option maxRecDepth 100000 in
theorem stl_cmp (x y : Pmt) (W : World) : Calls Tryz.prog 21 #[.agg #[.int .i64 (x.fr : Nat), .int .i64 (x.rc : Nat), .int .i64 x.am], .agg #[.int .i64 (y.fr : Nat), .int .i64 (y.rc : Nat), .int .i64 y.am]] W fun e w' => e = .returned (.int .i64 (cmpP x y)) ∧ ∃ q os', w' = grow (W.drewN q) os' := by
  obtain ⟨W2, hW2⟩ : ∃ W2, W2 = (W.alloc (.cells #[.int .i64 (x.fr : Nat), .int .i64 (x.rc : Nat), .int .i64 x.am] 46)).alloc (.cells #[.int .i64 (y.fr : Nat), .int .i64 (y.rc : Nat), .int .i64 y.am] 46) := ⟨_, rfl⟩
  have e2 : W2.heap.size = W.heap.size + 1 + 1 := by rw [hW2]; simp
  have hcon := compare_ints _ _ 2 2 (prF x) (prF y) _ ((two_ints W2 x).mono ((Below.refl _ _).alloc (Nat.le_refl _) (.cells #[.int .i64 (y.fr : Nat), .int .i64 (y.rc : Nat)] 3)) (Nat.le_refl _)) (two_ints (W2.alloc (.cells #[.int .i64 (x.fr : Nat), .int .i64 (x.rc : Nat)] 3)) y) (by omega) (by omega)
  rw [lex_pay, World.size_alloc, e2] at hcon
  rw [hW2] at hcon
  clear hW2 e2
  generalize cmpP x y = r at hcon ⊢
  go_enter Tryz.func21, Tryz.ntmps21
  go_wp2_with (go_at_call 22; (with_reducible refine hcon.mono ?_); rintro e w' ⟨rfl, rfl⟩)
  go_ret
  exact ⟨rfl, grow4 _ _ _ _ _⟩
theorem stl_lays (blk off size : Nat) (w : World) : CmpLays Tryz.prog 21 #[] payC 3 cmpP blk off size w :=
  fun _ _ _ _ x y => stl_cmp x y _
theorem stl_len (n : Nat) (W : World) (h : n ≤ 12) : Calls Tryz.prog 33 #[.int .u64 n] W fun e w' => (∃ l : Int, e = .returned (.int .i64 l)) ∧ w' = W :=
  (Tryz.bits_Len n W (by omega) (by omega)).mono fun _ _ ⟨he, hw⟩ => ⟨⟨_, he⟩, hw⟩
/-- payments in a row, as read -/
structure PayR (w : World) (g : Nat) (P : List Pmt) : Prop where
  c0 : ∀ i, i < P.length → w.cell? ⟨g, i * 3, none⟩ = some (.int .i64 ((P.getD i default).fr : Nat))
  c1 : ∀ i, i < P.length → w.cell? ⟨g, i * 3 + 1, none⟩ = some (.int .i64 ((P.getD i default).rc : Nat))
  c2 : ∀ i, i < P.length → w.cell? ⟨g, i * 3 + 2, none⟩ = some (.int .i64 (P.getD i default).am)
theorem flat_get (P : List Pmt) (t : Nat) (h : t < P.length * 3) : (flatK payC 3 P.toArray)[t]! = (payC (P.getD (t / 3) default))[t % 3]! := by
  rw [get_flatK _ _ _ _ (by simpa using h)]
  have e : P.toArray[t / 3]! = P.getD (t / 3) default := by
    have : t / 3 < P.length := by omega
    simp [this]
  rw [e]
theorem holds_own {w : World} {base g cap : Nat} {P : List Pmt} (h : w.ownsRow base 46 3 (.slice (some ⟨g, 0, none⟩) P.length cap) P.length (payL P)) : HoldsK payC 3 w g 0 P.toArray := by
  intro t ht
  have ht2 : t < P.length * 3 := by simpa using ht
  rw [Nat.zero_add]
  refine ⟨?_, h.frozenAt t⟩
  rw [h.cellAt t ht2, payL_get P t ht2, flat_get P t ht2]
  have h3 : t % 3 < 3 := Nat.mod_lt _ (by omega)
  generalize P.getD (t / 3) default = x
  rcases (show t % 3 = 0 ∨ t % 3 = 1 ∨ t % 3 = 2 by omega) with e | e | e <;> rw [e] <;> rfl
theorem payR_holds {w : World} {g : Nat} {P : List Pmt} (h : HoldsK payC 3 w g 0 P.toArray) : PayR w g P := by
  have h2 : ∀ t, t < P.length * 3 → w.cell? ⟨g, t, none⟩ = some ((payC (P.getD (t / 3) default))[t % 3]!) := fun t ht => by
    have := (h t (by simpa using ht)).1
    rw [Nat.zero_add, flat_get P t ht] at this
    exact this
  refine ⟨fun i hi => ?_, fun i hi => ?_, fun i hi => ?_⟩
  · rw [h2 (i * 3) (by omega), show i * 3 / 3 = i by omega, show i * 3 % 3 = 0 by omega]; rfl
  · rw [h2 (i * 3 + 1) (by omega), show (i * 3 + 1) / 3 = i by omega, show (i * 3 + 1) % 3 = 1 by omega]; rfl
  · rw [h2 (i * 3 + 2) (by omega), show (i * 3 + 2) / 3 = i by omega, show (i * 3 + 2) % 3 = 2 by omega]; rfl
theorem sort_below {w : World} {B g n : Nat} {d : Array Pmt} {os : Array Obj} (hg : B ≤ g) (hB : B ≤ w.heap.size) : Below B w (sortWorldK payC 3 w g 0 n d os) := by
  refine ⟨rfl, rfl, rfl, size_sortWorldK_c _ _ _ _ _ _ _ _, fun k hk => ?_⟩
  unfold sortWorldK grow putRowK putRow mapBlock
  rw [Array.getElem?_append_left (by simp [Sort.ahead]; omega), Array.getElem?_modify, if_neg (by omega)]
  rfl
set_option maxHeartbeats 1000000 in
theorem sortPay_any (w : World) (base g cap : Nat) (P : List Pmt) (h : w.ownsRow base 46 3 (.slice (some ⟨g, 0, none⟩) P.length cap) P.length (payL P)) (h12 : P.length ≤ 12) :
    Calls Tryz.prog 20 #[.slice (some ⟨g, 0, none⟩) P.length cap, .func (.func 21) #[] #[]] w fun e w' => e = .returned (.tuple #[]) ∧ ∃ P' : List Pmt, P'.length = P.length ∧ P.Perm P' ∧ P'.Pairwise (fun a b => ¬ ltK b a) ∧ PayR w' g P' ∧ Below base w w' ∧ g < w'.heap.size := by
  have hgb : base ≤ g ∧ g < w.heap.size := h.lt g rfl
  have eg : ∀ args w, (callFunc 21 args).run Tryz.prog w = .ok (.enter 21 args) w := enters_of Tryz.func21 (by kernel_rfl) rfl
  have hcon := AnyQ.slices_SortFunc_small_sorted Tryz.sortPay 3 Tryz.isAgg46 Tryz.sizeOf46 payC (fun _ => rfl) (fun x v hv => by simp [payC] at hv; rcases hv with rfl | rfl | rfl <;> rfl) cmpP 21 #[] (swo_cmpP (fun _ _ => rfl)) g 0 cap P.toArray w eg (stl_lays g 0 P.toArray.size w) (holds_own h) hgb.2 (by simpa using h12) stl_len
  rw [show P.toArray.size = P.length from rfl] at hcon
  refine Calls.mono hcon ?_
  rintro e w' ⟨rfl, d', n, os, hp, hs, rfl⟩
  have hsz : d'.size = P.length := by have := hp.1; simpa using this
  refine ⟨rfl, d'.toList, by simpa using hsz, by have := perm_of hp; simpa using this, sorted_of (lt := ltOf cmpP) (d := P.toArray) (fun _ _ => rfl) (by simpa using hsz) hs, ?_, sort_below hgb.1 (by omega), ?_⟩
  · have := holdsK_sortWorldK_c payC 3 w g 0 P.toArray d' n os (holds_own h) hgb.2 (by simpa using hsz)
    exact payR_holds (by simpa using this)
  · exact Nat.lt_of_lt_of_le hgb.2 (size_sortWorldK_c _ _ _ _ _ _ _ _)
end Go.Proofs.YtcnaagiicpkcpaaGreat

/- arcs of package debt. (Printed by gen_arcs.py.) -/
namespace Go.Proofs.YtcnaagiicpkcpaaGreat
open Go.RowKit
attribute [local go_sem ↓] Go.wp_at_zero Go.wp_at_succ
/-- the arcs of one debt -/
def fwdA (d r : Nat → Nat → Int) (i j : Nat) : Arc := ⟨i, j, 1, d i j - r i j, i, j⟩
def bwdA (r : Nat → Nat → Int) (i j : Nat) : Arc := ⟨j, i, -1, r i j, i, j⟩
def arcsAt (d r : Nat → Nat → Int) (i j : Nat) : List Arc := (if r i j < d i j then [fwdA d r i j] else []) ++ (if 0 < r i j then [bwdA r i j] else [])
def arcsRow (d r : Nat → Nat → Int) (i : Nat) : Nat → List Arc
  | 0 => []
  | j + 1 => arcsRow d r i j ++ arcsAt d r i j
def arcsAll (d r : Nat → Nat → Int) (n : Nat) : Nat → List Arc
  | 0 => []
  | i + 1 => arcsAll d r n i ++ arcsRow d r i n
/-- an arc as five cells; R: where the matrix lies -/
def arcC (R : Nat) (a : Arc) : List Value := [.int .i64 (a.src : Nat), .int .i64 (a.dst : Nat), .int .i64 a.c, .int .i64 a.most, .pointer (some ⟨R + 1 + a.pi, a.pj, none⟩)]
def arcCs (R : Nat) (l : List Arc) : List Value := l.flatMap (arcC R)
theorem arcCs_app (R : Nat) (l : List Arc) (a : Arc) : arcCs R l ++ arcC R a = arcCs R (l ++ [a]) := by simp [arcCs]
theorem arcsAt_len (d r : Nat → Nat → Int) (i j : Nat) : (arcsAt d r i j).length ≤ 2 := by unfold arcsAt; split <;> split <;> simp
theorem arcsRow_len (d r : Nat → Nat → Int) (i : Nat) : ∀ j, (arcsRow d r i j).length ≤ 2 * j
  | 0 => by simp [arcsRow]
  | j + 1 => by have := arcsRow_len d r i j; have := arcsAt_len d r i j; simp only [arcsRow, List.length_append]; omega
theorem arcsAll_len (d r : Nat → Nat → Int) (n : Nat) : ∀ i, (arcsAll d r n i).length ≤ 2 * n * i
  | 0 => by simp [arcsAll]
  | i + 1 => by have := arcsAll_len d r n i; have := arcsRow_len d r i n; simp only [arcsAll, List.length_append, Nat.mul_succ]; omega
/-- five cells that were just made -/
theorem new5 (w : World) (R : Nat) (a : Arc) (t : TypeId) : ∀ j u, (arcC R a)[j]? = some u → (w.alloc (.cells (arcC R a).toArray t)).cell? ((⟨w.heap.size, 0, none⟩ : Addr).add j) = some u := fun j u hj => by
  have hadd : (⟨w.heap.size, 0, none⟩ : Addr).add j = ⟨w.heap.size, j, none⟩ := by unfold Addr.add; split <;> simp_all
  rw [hadd]
  simp [go_sem]
  exact hj
theorem one5 (R : Nat) (a : Arc) : ∀ u ∈ arcC R a, u.oneCell' = true := fun u hu => by
  simp [arcC] at hu
  rcases hu with rfl | rfl | rfl | rfl | rfl <;> rfl
theorem infoA : (Tryz.prog.info? 108).map (fun i => (i.zero, i.size, i.bytes)) = some (some (.agg #[.int .i64 0, .int .i64 0, .int .i64 0, .int .i64 0, .pointer none]), 5, 40) := by kernel_rfl
set_option maxHeartbeats 4000000 in
set_option maxRecDepth 100000 in
theorem arcs_any (vd : Value) (R n : Nat) (d r : Nat → Nat → Int) (w : World) (hd : Mat w vd n (fun _ => n) d) (hr : OwnMat w R n r) (hn : n ≤ 8) (hRB : R + 1 + n ≤ w.heap.size) (hR : ∀ i j, i < n → j < n → 0 ≤ r i j ∧ r i j ≤ d i j ∧ d i j ≤ 1000) :
    Calls Tryz.prog 60 #[vd, .slice (some ⟨R, 0, none⟩) n n] w fun e w' => ∃ va vk, e = .returned (.slice va (arcsAll d r n n).length vk) ∧ w'.ownsRow w.heap.size 108 5 (.slice va (arcsAll d r n n).length vk) (arcsAll d r n n).length (arcCs R (arcsAll d r n n)) ∧ Below w.heap.size w w' := by
  obtain ⟨a, b, o, c, ra, rb, ro, rc, rfl, hs⟩ := hd
  have hm := hr.isMat
  have HS := Lib.hid hs
  have HM := Lib.hid hm
  have HRR := Lib.hid hR
  have HRB := Lib.hid hRB
  obtain ⟨i0, hi, hz0, hz1, hz2⟩ := info_parts infoA
  have KW0 := Lib.hid (Below.refl w.heap.size w)
  clear hs hm hR hr hRB
  go_enter Tryz.func60, Tryz.ntmps60
  go_wp2
  go_loopw [5, 12] (fun v5 v12 wr => ∃ k : Nat, k ≤ n ∧ v12 = .int .i64 (k : Nat) ∧ ∃ va vk, v5 = .slice va (arcsAll d r n k).length vk ∧ Hid (wr.ownsRow w.heap.size 108 5 (.slice va (arcsAll d r n k).length vk) (arcsAll d r n k).length (arcCs R (arcsAll d r n k))) ∧ Hid (Below w.heap.size w wr)) (fun _ v12 _ => n - (intOf v12).toNat)
  case atStart => exact ⟨0, by omega, rfl, none, 0, rfl, Lib.hid (World.ownsRow_nil _ _ _ _), KW0⟩
  case round =>
    clear KW0
    obtain ⟨k, hk, rfl, va0, vk0, rfl, OW0, KW0⟩ := hrel
    by_cases h : k < n
    · have HL := Lib.hid (arcsAll_len d r n k)
      have OW0 : Hid (wr.ownsRow w.heap.size 108 5 (.slice va0 (arcsAll d r n k ++ arcsRow d r k 0).length vk0) (arcsAll d r n k ++ arcsRow d r k 0).length (arcCs R (arcsAll d r n k ++ arcsRow d r k 0))) := by simpa [arcsRow] using OW0
      have hl0 : (arcsAll d r n k).length = (arcsAll d r n k ++ arcsRow d r k 0).length := by simp [arcsRow]
      rw [hl0]
      clear hl0
      go_wp2
      go_loopw [5, 17] (fun v5 v17 wr => ∃ j : Nat, j ≤ n ∧ v17 = .int .i64 (j : Nat) ∧ ∃ va vk, v5 = .slice va (arcsAll d r n k ++ arcsRow d r k j).length vk ∧ Hid (wr.ownsRow w.heap.size 108 5 (.slice va (arcsAll d r n k ++ arcsRow d r k j).length vk) (arcsAll d r n k ++ arcsRow d r k j).length (arcCs R (arcsAll d r n k ++ arcsRow d r k j))) ∧ Hid (Below w.heap.size w wr)) (fun _ v17 _ => n - (intOf v17).toNat)
      case atStart => exact ⟨0, by omega, rfl, va0, vk0, rfl, OW0, KW0⟩
      case round =>
        clear OW0 KW0
        obtain ⟨j, hj, rfl, va, vk, rfl, OW, KW⟩ := hrel
        by_cases h2 : j < n
        · have hm := HM.out.mono KW.out (Nat.le_refl _)
          have hs := HS.out.mono KW.out (Nat.le_refl _)
          have x1 := fun W => ixM hm.top k n h W
          have x2 := fun W => ixI (hm.row k h) j n h2 W
          have x3 := fun W => ixM hs.top k c h W
          have x4 := fun W => ixI (hs.row k h) j (rc k) h2 W
          have y1 := hm.top.cell k h
          have y2 := (hm.row k h).cell j h2
          have y3 := hs.top.cell k h
          have y4 := (hs.row k h).cell j h2
          simp only [ic, Nat.zero_add] at x1 x2 y1 y2 y4
          obtain ⟨b1, b2, b3⟩ := HRR.out k j h h2
          have hlen : (arcsAll d r n k ++ arcsRow d r k j).length ≤ 200 := by
            have := HL.out
            have := arcsRow_len d r k j
            have h5 : 2 * n * k ≤ 2 * 8 * 8 := Nat.mul_le_mul (by omega) (by omega)
            rw [List.length_append]; omega
          have HLEN := Lib.hid hlen
          have HSZ := Lib.hid KW.out.size
          have HRL := Lib.hid (show R + 1 + k < w.heap.size by have := HRB.out; omega)
          have HBL := Lib.hid (show b < w.heap.size ∧ rb k < w.heap.size from ⟨HS.out.top.lt (by omega), (HS.out.row k h).lt (by omega)⟩)
          clear hm hs hlen
          obtain ⟨L, hL⟩ : ∃ L, L = arcsAll d r n k ++ arcsRow d r k j := ⟨_, rfl⟩
          rw [← hL] at OW HLEN ⊢
          have HLL := Lib.hid hL
          clear hL
          obtain ⟨N, hN⟩ : ∃ N, N = L.length := ⟨_, rfl⟩
          rw [← hN] at OW HLEN ⊢
          have HN := Lib.hid hN
          clear hN
          by_cases hf : r k j < d k j
          · have d1 : decide (r k j < d k j) = true := by simpa using hf
            have HF := Lib.hid hf
            clear hf
            go_wp2
            go_quiet (fail)
            go_wp2
            have OW := Lib.hid (show (wr.drewN nq).ownsRow _ _ _ _ _ _ from OW.out)
            have KW := Lib.hid (below_drawN KW.out nq)
            have HSZ := Lib.hid KW.out.size
            have HBK := Lib.hid OW.out.lt
            have y2 : (wr.drewN nq).cell? _ = _ := y2
            have y3 : (wr.drewN nq).cell? _ = _ := y3
            have y4 : (wr.drewN nq).cell? _ = _ := y4
            clear y1
            have hwr : IntKind.i64.wrap (d k j - r k j) = d k j - r k j := by rw [IntKind.wrap_i64]; omega
            have g0 : (0:Int) ≤ (k:Int) := Int.natCast_nonneg k
            have g1 : (0:Int) ≤ (j:Int) := Int.natCast_nonneg j
            have g2 : (k:Int) < (n:Int) := by omega
            have g3 : (j:Int) < (n:Int) := by omega
            generalize wr.drewN nq = wA at *
            have hR := HRL.out
            have hbA := HBL.out.1
            have hbB := HBL.out.2
            go_region_held3 (fun w' => w'.cell? ⟨b, o + k, none⟩ = some (.slice (ra k) n (rc k)) ∧ w'.cell? ⟨rb k, ro k + j, none⟩ = some (.int .i64 (d k j)) ∧ w'.cell? ⟨R + 1 + k, j, none⟩ = some (.int .i64 (r k j)))
              (first
                | go_keep
                | (go_split_ands
                   have q1 : Value.ownBlock (.slice va N vk) ≠ some b := fun e => by have := (HBK.out b e).1; omega
                   have q2 : Value.ownBlock (.slice va N vk) ≠ some (rb k) := fun e => by have := (HBK.out (rb k) e).1; omega
                   have q3 : Value.ownBlock (.slice va N vk) ≠ some (R + 1 + k) := fun e => by have := (HBK.out (R + 1 + k) e).1; omega
                   have hz := HSZ.out
                   refine ⟨?_, ?_, ?_⟩
                   · (rw [hgrow.cell_far _ (by simp; omega) (Ne.symm q1)]; assumption)
                   · (rw [hgrow.cell_far _ (by simp; omega) (Ne.symm q2)]; assumption)
                   · (rw [hgrow.cell_far _ (by simp; omega) (Ne.symm q3)]; assumption)))
              ((refine step_append_lies _ (by rfl) _ _ _ (by rfl) w.heap.size 108 i0 _ 5 40 Tryz.underlying102 hi hz0 hz1 hz2 rfl (by omega) (.slice va N vk) N (arcCs R L) (by rfl) (OW.out.alloc _)
                  ⟨wA.heap.size, 0, none⟩ 1 1 (arcC R (fwdA d r k j)) (by rfl) (by rfl) (new5 wA R (fwdA d r k j) _) (one5 R (fwdA d r k j))
                  (by omega) (by have := HLEN.out; unfold maxLen; omega) (by have := HLEN.out; omega) (by simp; have := HSZ.out; omega) (wA.heap.size + 1) (by simp) ?_; intro gg cap w1 hown1 hgrow hat hlt))
            rw [arcCs_app] at hown1
            have OW := Lib.hid hown1
            have KW := Lib.hid (((KW.out.alloc KW.out.size _).drew).grown hgrow (by have := HSZ.out; simp; omega) (fun kk e => (HBK.out kk e).1))
            clear hown1 hgrow hat hlt y2 y3 y4
            have hm := HM.out.mono KW.out (Nat.le_refl _)
            have y1 := hm.top.cell k h
            have y2 := (hm.row k h).cell j h2
            simp only [ic, Nat.zero_add] at y1 y2
            clear hm
            by_cases hp : 0 < r k j
            · have d2 : decide (0 < r k j) = true := by simpa using hp
              have HP := Lib.hid hp
              have HBK := Lib.hid OW.out.lt
              have HSZ := Lib.hid KW.out.size
              clear hp
              go_wp2_with (at_builtin; refine wpList_append_own _ rfl (.tmp 65) (.tmp 73) 102 rfl w.heap.size 108 i0 _ 5 40 Tryz.underlying102 hi hz0 hz1 hz2 rfl (by decide) (.slice (some ⟨gg, 0, none⟩) (N + 1) cap) (N + 1) (arcCs R (L ++ [fwdA d r k j])) rfl (OW.out.alloc _) ⟨w1.heap.size, 0, none⟩ 1 1 (arcC R (bwdA r k j)) rfl rfl (new5 w1 R (bwdA r k j) _) (one5 R (bwdA r k j)) (by have := HLEN.out; unfold maxLen; omega) (by have := HLEN.out; omega) (by simp; have := HSZ.out; omega) ?_; intro v' w3 hown hgrow _; have KW := Lib.hid ((KW.out.alloc KW.out.size _).grown hgrow (by have := HSZ.out; simp; omega) (fun kk e => (HBK.out kk e).1)); rw [arcCs_app] at hown; obtain ⟨va', vk', rfl⟩ := own_shape hown; have OW := Lib.hid hown; clear hown hgrow)
              go_roundw
              case rel =>
                have e : arcsAll d r n k ++ arcsRow d r k (j + 1) = L ++ [fwdA d r k j] ++ [bwdA r k j] := by
                  have := HLL.out
                  simp only [arcsRow, ← List.append_assoc, ← this, arcsAt, if_pos HF.out, if_pos HP.out]
                  try simp
                have e2 : (L ++ [fwdA d r k j] ++ [bwdA r k j]).length = N + 1 + 1 := by have := HN.out; (try simp); omega
                refine ⟨j + 1, by omega, by go_num, va', vk', ?_, ?_, KW⟩
                · rw [e, e2]
                · rw [e, e2]; exact OW
              case measure => simp [intOf]; omega
            · have d2 : decide (0 < r k j) = false := by simpa using hp
              have HP := Lib.hid hp
              clear hp
              go_wp2
              go_roundw
              case rel =>
                have e : arcsAll d r n k ++ arcsRow d r k (j + 1) = L ++ [fwdA d r k j] := by
                  have := HLL.out
                  simp only [arcsRow, ← List.append_assoc, ← this, arcsAt, if_pos HF.out, if_neg (show ¬ 0 < r k j by have := HP.out; omega)]
                  try simp
                have e2 : (L ++ [fwdA d r k j]).length = N + 1 := by have := HN.out; (try simp); omega
                refine ⟨j + 1, by omega, by go_num, (some ⟨gg, 0, none⟩), cap, ?_, ?_, KW⟩
                · rw [e, e2]
                · rw [e, e2]; exact OW
              case measure => simp [intOf]; omega
          · have d1 : decide (r k j < d k j) = false := by simpa using hf
            have HF := Lib.hid hf
            clear hf
            go_wp2
            go_quiet (fail)
            have OW := Lib.hid (show (wr.drewN nq).ownsRow _ _ _ _ _ _ from OW.out)
            have KW := Lib.hid (below_drawN KW.out nq)
            clear y1 y2 y3 y4
            generalize wr.drewN nq = wA at *
            have hm := HM.out.mono KW.out (Nat.le_refl _)
            have y1 := hm.top.cell k h
            have y2 := (hm.row k h).cell j h2
            simp only [ic, Nat.zero_add] at y1 y2
            clear hm
            by_cases hp : 0 < r k j
            · have d2 : decide (0 < r k j) = true := by simpa using hp
              have HP := Lib.hid hp
              have HBK := Lib.hid OW.out.lt
              have HSZ := Lib.hid KW.out.size
              clear hp
              go_wp2_with (at_builtin; refine wpList_append_own _ rfl (.tmp 65) (.tmp 73) 102 rfl w.heap.size 108 i0 _ 5 40 Tryz.underlying102 hi hz0 hz1 hz2 rfl (by decide) (.slice va (N) vk) (N) (arcCs R (L)) rfl (OW.out.alloc _) ⟨wA.heap.size, 0, none⟩ 1 1 (arcC R (bwdA r k j)) rfl rfl (new5 wA R (bwdA r k j) _) (one5 R (bwdA r k j)) (by have := HLEN.out; unfold maxLen; omega) (by have := HLEN.out; omega) (by simp; have := HSZ.out; omega) ?_; intro v' w3 hown hgrow _; have KW := Lib.hid ((KW.out.alloc KW.out.size _).grown hgrow (by have := HSZ.out; simp; omega) (fun kk e => (HBK.out kk e).1)); rw [arcCs_app] at hown; obtain ⟨va', vk', rfl⟩ := own_shape hown; have OW := Lib.hid hown; clear hown hgrow)
              go_roundw
              case rel =>
                have e : arcsAll d r n k ++ arcsRow d r k (j + 1) = L ++ [bwdA r k j] := by
                  have := HLL.out
                  simp only [arcsRow, ← List.append_assoc, ← this, arcsAt, if_neg (show ¬ r k j < d k j by have := HF.out; omega), if_pos HP.out]
                  try simp
                have e2 : (L ++ [bwdA r k j]).length = N + 1 := by have := HN.out; (try simp); omega
                refine ⟨j + 1, by omega, by go_num, va', vk', ?_, ?_, KW⟩
                · rw [e, e2]
                · rw [e, e2]; exact OW
              case measure => simp [intOf]; omega
            · have d2 : decide (0 < r k j) = false := by simpa using hp
              have HP := Lib.hid hp
              clear hp
              go_wp2
              go_roundw
              case rel =>
                have e : arcsAll d r n k ++ arcsRow d r k (j + 1) = L := by
                  have := HLL.out
                  simp only [arcsRow, ← List.append_assoc, ← this, arcsAt, if_neg (show ¬ r k j < d k j by have := HF.out; omega), if_neg (show ¬ 0 < r k j by have := HP.out; omega)]
                  try simp
                have e2 : (L).length = N := by have := HN.out; (try simp); omega
                refine ⟨j + 1, by omega, by go_num, va, vk, ?_, ?_, KW⟩
                · rw [e, e2]
                · rw [e, e2]; exact OW
              case measure => simp [intOf]; omega
        · obtain rfl : j = n := by omega
          go_wp2
          go_roundw
          case rel => exact ⟨k + 1, by omega, by go_num, va, vk, rfl, OW, KW⟩
          case measure => simp [intOf]; omega
    · skip
      obtain rfl : k = n := by omega
      go_wp2
      go_ret
      exact ⟨va0, vk0, rfl, OW0.out, KW0.out⟩
end Go.Proofs.YtcnaagiicpkcpaaGreat

/- Plain facts about the arcs of debts; arcs as cells. -/
namespace Go.Proofs.YtcnaagiicpkcpaaGreat
open Go.RowKit
/-- m arcs that lie in block g; R: where the matrix lies -/
structure ArcRow (w : World) (g m R : Nat) (l : Nat → Arc) : Prop where
  c0 : ∀ k, k < m → w.cell? ⟨g, k * 5, none⟩ = some (.int .i64 ((l k).src : Nat))
  c1 : ∀ k, k < m → w.cell? ⟨g, k * 5 + 1, none⟩ = some (.int .i64 ((l k).dst : Nat))
  c2 : ∀ k, k < m → w.cell? ⟨g, k * 5 + 2, none⟩ = some (.int .i64 (l k).c)
  c3 : ∀ k, k < m → w.cell? ⟨g, k * 5 + 3, none⟩ = some (.int .i64 (l k).most)
  c4 : ∀ k, k < m → w.cell? ⟨g, k * 5 + 4, none⟩ = some (.pointer (some ⟨R + 1 + (l k).pi, (l k).pj, none⟩))
  lt : g < w.heap.size
theorem ArcRow.below {w w' : World} {g m R B : Nat} {l : Nat → Arc} (h : ArcRow w g m R l) (hb : Below B w w') (hB : g < B) : ArcRow w' g m R l :=
  ⟨fun k hk => (hb.cell (p := ⟨g, _, none⟩) hB).trans (h.c0 k hk), fun k hk => (hb.cell (p := ⟨g, _, none⟩) hB).trans (h.c1 k hk), fun k hk => (hb.cell (p := ⟨g, _, none⟩) hB).trans (h.c2 k hk), fun k hk => (hb.cell (p := ⟨g, _, none⟩) hB).trans (h.c3 k hk), fun k hk => (hb.cell (p := ⟨g, _, none⟩) hB).trans (h.c4 k hk), Nat.lt_of_lt_of_le h.lt hb.size⟩
theorem arcCs_get (R f : Nat) (hf : f < 5) : ∀ (L : List Arc) (k : Nat) (a : Arc), L[k]? = some a → (arcCs R L)[k * 5 + f]? = (arcC R a)[f]?
  | [], k, a, h => by simp at h
  | b :: L, 0, a, h => by
    simp at h; subst h
    show (arcC R b ++ arcCs R L)[0 * 5 + f]? = _
    rw [Nat.zero_mul, Nat.zero_add, List.getElem?_append_left (by simp [arcC]; omega)]
  | b :: L, k + 1, a, h => by
    have ih := arcCs_get R f hf L k a (by simpa using h)
    show (arcC R b ++ arcCs R L)[(k + 1) * 5 + f]? = _
    rw [List.getElem?_append_right (by simp [arcC]; omega)]
    have : (k + 1) * 5 + f - (arcC R b).length = k * 5 + f := by simp [arcC]; omega
    rw [this]; exact ih
theorem ArcRow.of_own {w : World} {base g n cap R : Nat} {L : List Arc} {l : Nat → Arc} (h : w.ownsRow base 108 5 (.slice (some ⟨g, 0, none⟩) n cap) n (arcCs R L)) (hl : ∀ k, k < n → L[k]? = some (l k)) (hg : g < w.heap.size) : ArcRow w g n R l :=
  ⟨fun k hk => (h.cellAt (k * 5) (by omega)).trans (arcCs_get R 0 (by omega) L k _ (hl k hk)),
   fun k hk => (h.cellAt (k * 5 + 1) (by omega)).trans (arcCs_get R 1 (by omega) L k _ (hl k hk)),
   fun k hk => (h.cellAt (k * 5 + 2) (by omega)).trans (arcCs_get R 2 (by omega) L k _ (hl k hk)),
   fun k hk => (h.cellAt (k * 5 + 3) (by omega)).trans (arcCs_get R 3 (by omega) L k _ (hl k hk)),
   fun k hk => (h.cellAt (k * 5 + 4) (by omega)).trans (arcCs_get R 4 (by omega) L k _ (hl k hk)), hg⟩
theorem own_cap {w : World} {base e size n : Nat} {a : Option Addr} {c : Nat} {xs : List Value} (h : w.ownsRow base e size (.slice a n c) n xs) : n ≤ c := by
  rcases h.2 with ⟨h1, h2⟩ | ⟨g, cap, cur, h1, _, _, h2, _⟩
  · rw [h2]; exact Nat.zero_le _
  · cases h1; exact h2
section
variable {d r : Nat → Nat → Int}
theorem mem_at {i j : Nat} {a : Arc} : a ∈ arcsAt d r i j ↔ (r i j < d i j ∧ a = fwdA d r i j) ∨ (0 < r i j ∧ a = bwdA r i j) := by
  unfold arcsAt
  by_cases h1 : r i j < d i j <;> by_cases h2 : 0 < r i j <;> simp [h1, h2]
theorem mem_row {i : Nat} {a : Arc} : ∀ {J : Nat}, a ∈ arcsRow d r i J ↔ ∃ j, j < J ∧ a ∈ arcsAt d r i j
  | 0 => by simp [arcsRow]
  | J + 1 => by
    simp only [arcsRow, List.mem_append]
    rw [mem_row]
    constructor
    · rintro (⟨j, hj, h⟩ | h)
      · exact ⟨j, by omega, h⟩
      · exact ⟨J, by omega, h⟩
    · rintro ⟨j, hj, h⟩
      by_cases e : j = J
      · subst e; exact .inr h
      · exact .inl ⟨j, by omega, h⟩
theorem mem_all {n : Nat} {a : Arc} : ∀ {N : Nat}, a ∈ arcsAll d r n N ↔ ∃ i j, i < N ∧ j < n ∧ a ∈ arcsAt d r i j
  | 0 => by simp [arcsAll]
  | N + 1 => by
    simp only [arcsAll, List.mem_append]
    rw [mem_all, mem_row]
    constructor
    · rintro (⟨i, j, hi, hj, h⟩ | ⟨j, hj, h⟩)
      · exact ⟨i, j, by omega, hj, h⟩
      · exact ⟨N, j, by omega, hj, h⟩
    · rintro ⟨i, j, hi, hj, h⟩
      by_cases e : i = N
      · subst e; exact .inr ⟨j, hj, h⟩
      · exact .inl ⟨i, j, by omega, hj, h⟩
/-- arc k of a list -/
def arcF (L : List Arc) (k : Nat) : Arc := L.getD k ⟨0, 0, 0, 0, 0, 0⟩
theorem arcF_get (L : List Arc) (k : Nat) (h : k < L.length) : L[k]? = some (arcF L k) := by
  simp [arcF, List.getD, List.getElem?_eq_getElem h]
theorem arcF_mem (L : List Arc) (k : Nat) (h : k < L.length) : arcF L k ∈ L := List.mem_of_getElem? (arcF_get L k h)
theorem mem_arcF {L : List Arc} {a : Arc} (h : a ∈ L) : ∃ k, k < L.length ∧ arcF L k = a := by
  obtain ⟨k, hk, e⟩ := List.getElem_of_mem h
  refine ⟨k, hk, ?_⟩
  have := arcF_get L k hk
  rw [List.getElem?_eq_getElem hk, e] at this
  exact (Option.some.inj this).symm
theorem arcs_ok {n : Nat} (h : ∀ i j, i < n → j < n → 0 ≤ r i j ∧ r i j ≤ d i j) (hd : ∀ i, i < n → d i i = 0) : ArcsOK n (arcsAll d r n n).length (arcF (arcsAll d r n n)) d r where
  sound := fun k hk => by
    obtain ⟨i, j, hi, hj, hm⟩ := mem_all.1 (arcF_mem _ k hk)
    have hb := h i j hi hj
    have hne : i ≠ j := fun e => by
      subst e
      rw [hd i hi] at hb
      rcases mem_at.1 hm with ⟨q, _⟩ | ⟨q, _⟩
      · rw [hd i hi] at q; omega
      · omega
    rcases mem_at.1 hm with ⟨q, e⟩ | ⟨q, e⟩
    · rw [e]; exact ⟨hi, hj, hne, .inl ⟨rfl, rfl, rfl, q, rfl⟩⟩
    · rw [e]; exact ⟨hi, hj, hne, .inr ⟨rfl, rfl, rfl, q, rfl⟩⟩
  fwd := fun i j hi hj q => by
    obtain ⟨k, hk, e⟩ := mem_arcF (mem_all.2 ⟨i, j, hi, hj, mem_at.2 (.inl ⟨q, rfl⟩)⟩)
    exact ⟨k, hk, by rw [e]; rfl, by rw [e]; rfl, by rw [e]; rfl⟩
  bwd := fun i j hi hj q => by
    obtain ⟨k, hk, e⟩ := mem_arcF (mem_all.2 ⟨i, j, hi, hj, mem_at.2 (.inr ⟨q, rfl⟩)⟩)
    exact ⟨k, hk, by rw [e]; rfl, by rw [e]; rfl, by rw [e]; rfl⟩
theorem arcs_cost {n : Nat} (k : Nat) (hk : k < (arcsAll d r n n).length) : (arcF (arcsAll d r n n) k).c = 1 ∨ (arcF (arcsAll d r n n) k).c = -1 := by
  obtain ⟨i, j, hi, hj, hm⟩ := mem_all.1 (arcF_mem _ k hk)
  rcases mem_at.1 hm with ⟨q, e⟩ | ⟨q, e⟩
  · rw [e]; exact .inl rfl
  · rw [e]; exact .inr rfl
theorem arcsRow_len2 {i : Nat} (hz : d i i = 0) (hr : r i i = 0) : ∀ j, i < j → (arcsRow d r i j).length ≤ 2 * (j - 1)
  | 0, h => by omega
  | j + 1, h => by
    simp only [arcsRow, List.length_append]
    by_cases e : i = j
    · subst e
      have := arcsRow_len d r i i
      have h2 : arcsAt d r i i = [] := by unfold arcsAt; rw [hz, hr]; simp
      rw [h2]; simp; omega
    · have := arcsRow_len2 hz hr j (by omega)
      have := arcsAt_len d r i j
      omega
theorem arcs_len {n : Nat} (h : ∀ i j, i < n → j < n → 0 ≤ r i j ∧ r i j ≤ d i j) (hd : ∀ i, i < n → d i i = 0) : ∀ i, i ≤ n → (arcsAll d r n i).length ≤ 2 * (n - 1) * i
  | 0, _ => by simp [arcsAll]
  | i + 1, hi => by
    have := arcs_len h hd i (by omega)
    have hb := h i i (by omega) (by omega)
    have hz := hd i (by omega)
    have := arcsRow_len2 (d := d) (r := r) (i := i) hz (by omega) n (by omega)
    simp only [arcsAll, List.length_append, Nat.mul_succ]; omega
end
end Go.Proofs.YtcnaagiicpkcpaaGreat

/- A row of integers of the call's own, written. -/
namespace Go.Proofs.YtcnaagiicpkcpaaGreat
open Go.RowKit
theorem ics_set (f : Nat → Int) (n j : Nat) (x : Int) : (ics f n).set j (.int .i64 x) = ics (setN f j x) n := by
  apply List.ext_getElem?
  intro i
  rw [List.getElem?_set]
  by_cases h : j = i
  · subst h
    rw [if_pos rfl, ics_length]
    by_cases hj : j < n
    · rw [if_pos hj, ics_get _ _ _ hj]; simp [ic, setN]
    · rw [if_neg hj]; symm; rw [List.getElem?_eq_none_iff, ics_length]; omega
  · rw [if_neg h]
    by_cases hi : i < n
    · rw [ics_get _ _ _ hi, ics_get _ _ _ hi]; simp [ic, setN, Ne.symm h]
    · rw [List.getElem?_eq_none_iff.2 (by rw [ics_length]; omega), List.getElem?_eq_none_iff.2 (by rw [ics_length]; omega)]
/-- a row of the call's own, written -/
theorem own_ints_set {w : World} {B n g cap : Nat} {f : Nat → Int} (h : w.ownsRow B 3 1 (.slice (some ⟨g, 0, none⟩) n cap) n (ics f n)) (j : Nat) (x : Int) :
    (w.setCell ⟨g, j, none⟩ (.int .i64 x)).ownsRow B 3 1 (.slice (some ⟨g, 0, none⟩) n cap) n (ics (setN f j x) n) := by
  rw [← ics_set]; exact (h.stored j _).1
theorem rowIs_own {w : World} {B n g cap : Nat} {f : Nat → Int} (h : w.ownsRow B 3 1 (.slice (some ⟨g, 0, none⟩) n cap) n (ics f n)) (h0 : 0 < n) : IsSl w (some ⟨g, 0, none⟩) g 0 cap n (ic f) :=
  ⟨own_cap h, fun _ => rfl, fun _ => (h.lt g rfl).2, fun i hi => by rw [Nat.zero_add, h.cellAt i (by omega)]; exact ics_get f n i hi, fun e => by cases e⟩
end Go.Proofs.YtcnaagiicpkcpaaGreat
