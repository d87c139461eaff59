/- Qs of the reference, nums of the laws. -/
import Derived.Test.YtgmopcncbpdniaaGreatQRefN
import Derived.Test.YtgmopcncbpdniaaGreatQBrow
import Derived.Test.YtgmopcncbpdniaaGreatQSol
import Derived.Test.YtgmopcncbpdniaaGreatQClr
import Derived.Test.YtgmopcncbpdniaaGreatQRep
import Derived.Test.YtgmopcncbpdniaaGreatQLive3
import Derived.Deep.AppendLies
import Derived.Deep.RegionLaw
import Derived.Deep.RegionHeld3
set_option linter.unusedVariables false
set_option linter.unusedSimpArgs false
namespace Go.Proofs.YtgmopcncbpdniaaGreat
open Go.RowKit
attribute [local go_sem ↓] Go.wp_at_zero Go.wp_at_succ

theorem infoZQ : (Tryz.prog.info? 40).map (fun i => (i.zero, i.size, i.bytes)) = some (some (.agg #[.bool false, .slice none 0 0, .bool false, .slice none 0 0]), 4, 64) := by kernel_rfl
theorem kindz_made (w : World) (t : TypeId) (n c : Nat) : KindZ (w.alloc (.cells #[] t)) (.slice (some ⟨w.heap.size, 0, none⟩) n c) := fun g hg o x hx => by
  have : w.heap.size = g := Option.some.inj hg
  subst this
  rw [cell_of (t := t) (fr := (0, 0)) (heap_alloc_new w _)] at hx
  simp at hx
theorem qrow_start (w : World) (p d : Nat → Int) (K : Nat) : QRow (w.alloc (.cells #[] 40)) w.heap.size (.slice (some ⟨w.heap.size, 0, none⟩) 0 0) 0 p d K [] :=
  QRow.nil _ _ _ _ _ _ (World.ownsRow_made (e := 40) (base := w.heap.size) (size := 4) w #[] 0 (Nat.le_refl _) (by unfold maxLen; omega) rfl) (kindz_made _ _ _ _)
def qN (q : Nat → Rat) (j : Nat) : Int := (q j).num
def qD (q : Nat → Rat) (j : Nat) : Int := ((q j).den : Nat)

set_option maxHeartbeats 2000000 in
set_option maxRecDepth 100000 in
theorem qs_any (v : Value) (n : Nat) (q : Nat → Rat) (ss : Nat → ByteArray) (w : World) (hv : Strs w v n ss) (hn : n ≤ 1000) (hq : TxtQs n q ss) :
    Calls Tryz.prog 33 #[v] w fun e w' => ∃ va vk xs, e = .returned (.slice va n vk) ∧ QRow w' w.heap.size (.slice va n vk) n (qN q) (qD q) 1000 xs ∧ Below w.heap.size w w' := by
  obtain ⟨a, b, o, c, rfl, hs⟩ := hv
  obtain ⟨i0, hi, hz0, hz1, hz2⟩ := info_parts infoZQ
  have HS := Lib.hid hs
  have HQ := Lib.hid hq
  have KW0 := Lib.hid ((Below.refl w.heap.size w).alloc (Nat.le_refl _) (.cells #[] 40))
  have R0 := Lib.hid (qrow_start w (qN q) (qD q) 1000)
  clear hs hq
  go_enter Tryz.func33, Tryz.ntmps33
  go_wp2
  go_loopw [3, 4] (fun v3 v4 wr => ∃ k : Nat, k ≤ n ∧ v4 = .int .i64 (k : Nat) ∧ ∃ va vk xs, v3 = .slice va k vk ∧ Hid (QRow wr w.heap.size (.slice va k vk) k (qN q) (qD q) 1000 xs) ∧ Hid (Below w.heap.size w wr)) (fun _ v4 _ => n - (intOf v4).toNat)
  case atStart => exact ⟨0, by omega, rfl, _, 0, [], rfl, R0, KW0⟩
  case round =>
    clear R0 KW0
    obtain ⟨k, hk, rfl, va, vk, xs, rfl, R, KW⟩ := hrel
    by_cases h : k < n
    · have x0 := (HS.out.mono KW.out (Nat.le_refl _)).cell k h
      have ix := fun W => ixN HS.out k c h W
      go_wp2_with (first
        | (go_at_call 64; (with_reducible refine (of_any _ (q k) _ (HQ.out.txt k h)).mono ?_); rintro e w2 ⟨s2, a2, n2, c2, t2, b2, l2, k2, rfl, Q2, hb2⟩; have KW2 := Lib.hid ((KW.out.trans (hb2.out.mono KW.out.size)).alloc (KW.out.trans (hb2.out.mono KW.out.size)).size (.cells #[.bool s2, .slice a2 n2 c2, .bool t2, .slice b2 l2 k2] 40)); have R2 := Lib.hid ((R.out.below hb2.out).alloc (.cells #[.bool s2, .slice a2 n2 c2, .bool t2, .slice b2 l2 k2] 40)); have NEW := Lib.hid (own4_rd (own4_new w2 w2.heap.size rfl (.bool s2) (.slice a2 n2 c2) (.bool t2) (.slice b2 l2 k2) 40)); have Q3 := Lib.hid (Q2.out.alloc (.cells #[.bool s2, .slice a2 n2 c2, .bool t2, .slice b2 l2 k2] 40)); have HA3 : Hid (w.heap.size ≤ (w2.alloc (.cells #[.bool s2, .slice a2 n2 c2, .bool t2, .slice b2 l2 k2] 40)).heap.size) := Lib.hid KW2.out.size)
        | (at_builtin; go_loud (refine wpList_append_kindz rfl (.tmp 12) (.tmp 18) 32 rfl w.heap.size 40 i0 (.agg #[.bool false, .slice none 0 0, .bool false, .slice none 0 0]) 4 64 Tryz.underlying32 hi hz0 hz1 hz2 rfl (by decide) (.slice va k vk) k xs rfl R2.out.own R2.out.kind (noInt_4 _ _ _ _ _ _ _ _) ⟨w2.heap.size, 0, none⟩ 1 1 [.bool s2, .slice a2 n2 c2, .bool t2, .slice b2 l2 k2] rfl rfl (cells4' NEW.out) (one4' _ _ _ _ rfl rfl rfl rfl) (noInt_4 _ _ _ _ _ _ _ _) (by unfold maxLen; omega) (by omega) HA3.out (by omega) ?_; intro v' w7 hown hgrow hblk hkind; obtain ⟨va', vk', rfl⟩ := own_shape hown; have HOWN := Lib.hid hown; have HGROW := Lib.hid hgrow; have HKIND := Lib.hid hkind; clear hown hgrow hblk hkind)))
      go_roundw
      case rel => exact ⟨k + 1, by omega, by go_num, va', vk', _, rfl, Lib.hid (R2.out.push Q3.out rfl rfl HGROW.out HOWN.out HKIND.out), Lib.hid (KW2.out.grown HGROW.out HA3.out (fun kk e => (R2.out.own.lt kk e).1))⟩
      case measure => simp [intOf]; omega
    · obtain rfl : n = k := by omega
      go_wp2
      go_ret
      exact ⟨va, vk, xs, rfl, R.out, KW.out⟩

theorem Strs.mono {w w' : World} {v : Value} {n B : Nat} {ss : Nat → ByteArray} (h : Strs w v n ss) (hb : Below B w w') (hB : w.heap.size ≤ B) : Strs w' v n ss := Sl.mono h hb hB

set_option maxHeartbeats 1000000 in
theorem lnums_any (v : Value) (n : Nat) (q : Nat → Rat) (ss : Nat → ByteArray) (w : World) (hv : Strs w v n ss) (h0 : 0 < n) (hn : n ≤ 1000) (hq : TxtQs n q ss) :
    Calls Tryz.prog 12 #[v, .int .i64 (n : Nat)] w fun e w' => ∃ va vk, e = .returned (.tuple #[.slice va n vk, .bool true]) ∧ Hid (QSl w' (.slice va n vk) n (qN q) (qD q) 1000) ∧ Hid (Below w.heap.size w w') := by
  have HV := Lib.hid hv
  obtain ⟨a, b, o, c, rfl, hs⟩ := hv
  have HQ := Lib.hid hq
  clear hs hq
  go_enter Tryz.func12, Tryz.ntmps12
  go_wp2_with (first
    | (go_at_call 31; (with_reducible refine (rnums_any _ n q ss _ HV.out hn HQ.out).mono ?_); rintro e w2 ⟨rfl, hb2⟩; have KW := Lib.hid hb2; clear hb2)
    | (go_at_call 33; (with_reducible refine (qs_any _ n q ss _ (HV.out.mono KW.out (Nat.le_refl _)) hn HQ.out).mono ?_); rintro e w3 ⟨va, vk, xs, rfl, hr, hb3⟩; have KW := Lib.hid (KW.out.trans (hb3.mono KW.out.size)); have R := Lib.hid (hr.sl h0); clear hb3 hr))
  go_ret2
  exact ⟨va, vk, rfl, R, KW⟩

end Go.Proofs.YtgmopcncbpdniaaGreat

/- Clear for the laws: the texts of payments that clear; more cash, no payment falls. -/
set_option linter.unusedVariables false
set_option linter.unusedSimpArgs false
namespace Go.Proofs.YtgmopcncbpdniaaGreat
open Go.RowKit

/-- p are the payments of the market -/
structure Pays (n : Nat) (cash : Nat → Int) (d : Nat → Nat → Int) (F : Nat → Bool) (p : Nat → Rat) : Prop where
  rnd : RndJ n (cashQ cash) (totQ n d) (shQ n d) F
  sol : SolF n (cashQ cash) (totQ n d) (shQ n d) F p
  clr : ClrQ n (cashQ cash) (totQ n d) (shQ n d) p
  no : ∀ i, i < n → F i = false → totQ n d i ≤ hasP n (cashQ cash) (shQ n d) p i
theorem last_no {n : Nat} {cash : Nat → Int} {d : Nat → Nat → Int} {ps : (Nat → Bool) → Nat → Rat} {q : Nat} (h : Last n cash d ps q) : ∀ i, i < n → NW n cash d ps q i = false := fun i hi => by
  rcases Bool.eq_false_or_eq_true (NW n cash d ps q i) with e | e
  · have h1 := (frL_rank _ n i hi e).1
    have h2 := h.zero
    unfold rwM at h2
    omega
  · exact e
theorem pays_of {n : Nat} {cash : Nat → Int} {d : Nat → Nat → Int} {ps : (Nat → Bool) → Nat → Rat} {q : Nat} (hR : Rng n cash d) (hd : ∀ i j, 0 ≤ d i j) (hps : PsOK n cash d ps) (h : Last n cash d ps q) : Pays n cash d (FS n cash d ps q) (PS n cash d ps q) := by
  obtain ⟨x, hx⟩ := ps_rdy hps hR hd q
  have hJ := rnd_all hps hR hd q
  have hno : ∀ i, i < n → FS n cash d ps q i = false → totQ n d i ≤ hasP n (cashQ cash) (shQ n d) (PS n cash d ps q) i := fun i hi hF => by
    have h1 := last_no h i hi
    refine Rat.not_lt.1 (fun hlt => ?_)
    rw [nw_iff, hF, decide_eq_true hlt] at h1
    cases h1
  exact ⟨hJ, hx.sol, sol_clears (mktQ_of hR hd) hJ hx.sol hno, hno⟩
theorem pays_more {n : Nat} {cash cash' : Nat → Int} {d : Nat → Nat → Int} {F F' : Nat → Bool} {p p' : Nat → Rat} (hR' : Rng n cash' d) (hd : ∀ i j, 0 ≤ d i j) (h : Pays n cash d F p) (h' : Pays n cash' d F' p') (hc : ∀ i, i < n → cash i ≤ cash' i) : ∀ i, i < n → p i ≤ p' i :=
  sol_ge (mktQ_of hR' hd) h'.rnd h'.sol p h.clr.tot (fun i hi => by
    refine Rat.le_trans (h.clr.has i hi) ?_
    unfold hasP cashQ
    have h1 : ((cash i : Int) : Rat) ≤ ((cash' i : Int) : Rat) := Rat.intCast_le_intCast.2 (hc i hi)
    grind)
theorem txtq_of {n : Nat} {cash : Nat → Int} {d : Nat → Nat → Int} {ps : (Nat → Bool) → Nat → Rat} {q : Nat} {ss : Nat → ByteArray} (hR : Rng n cash d) (hn : n ≤ 8) (hd : ∀ i j, 0 ≤ d i j) (hps : PsOK n cash d ps) (h : TxtsOf n (PS n cash d ps q) ss) : TxtQs n (PS n cash d ps q) ss :=
  ⟨fun j hj => ⟨h.txt j hj, (pay_maxD hR hn hd hps q j hj).1, (pay_maxD hR hn hd hps q j hj).2⟩⟩
theorem clear_law (vc vd : Value) (n : Nat) (cash : Nat → Int) (m : Nat → Nat) (d : Nat → Nat → Int) (w : World) (hc : Ints w vc n cash) (hm : Mat w vd n m d) (hD : Debts n m d) (hC : ∀ i, i < n → 0 ≤ cash i ∧ cash i ≤ 1000) (hd : ∀ i j, 0 ≤ d i j) :
    Calls Tryz.prog 11 #[vc, vd] w fun e w' => ∃ va vk ss F p, e = .returned (.tuple #[.slice va n vk, .int .i64 0]) ∧ Hid (TxtQs n p ss) ∧ Hid (Pays n cash d F p) ∧ Hid (Strs w' (.slice va n vk) n ss) ∧ Hid (Below w.heap.size w w') := by
  have hR := rng_of hD hC hd
  obtain ⟨ps, hps⟩ := ps_ex hR hD.2.1 hd
  refine (clear_any vc vd n cash m d ps w hc hm hD hC hd hps).mono ?_
  rintro e w' ⟨q, va, vk, ss, rfl, hl, ht, hs, hb⟩
  exact ⟨va, vk, ss, _, _, rfl, Lib.hid (txtq_of hR hD.2.1 hd hps ht), Lib.hid (pays_of hR hd hps hl), Lib.hid hs, Lib.hid hb⟩
/-- the reference compares fractions as fractions are compared -/
theorem sgZ_le {a b : Rat} (h : a ≤ b) : decide (0 < sgZ (a.num * (b.den : Int) - b.num * (a.den : Int))) = false := by
  have h1 := (Rat.le_iff _ _).1 h
  unfold sgZ
  simp
  split
  · omega
  · split <;> omega

end Go.Proofs.YtgmopcncbpdniaaGreat

/- arcs of package debt. (Printed by gen_arcs.py.) -/
set_option linter.unusedVariables false
set_option linter.unusedSimpArgs false
namespace Go.Proofs.YtgmopcncbpdniaaGreat
open Go.RowKit
attribute [local go_sem ↓] Go.wp_at_zero Go.wp_at_succ

/-- the arcs of one debt -/
def fwdA (d r : Nat → Nat → Int) (i j : Nat) : Arc := ⟨i, j, 1, d i j - r i j, i, j⟩
def bwdA (r : Nat → Nat → Int) (i j : Nat) : Arc := ⟨j, i, -1, r i j, i, j⟩
def arcsAt (d r : Nat → Nat → Int) (i j : Nat) : List Arc := (if r i j < d i j then [fwdA d r i j] else []) ++ (if 0 < r i j then [bwdA r i j] else [])
def arcsRow (d r : Nat → Nat → Int) (i : Nat) : Nat → List Arc
  | 0 => []
  | j + 1 => arcsRow d r i j ++ arcsAt d r i j
def arcsAll (d r : Nat → Nat → Int) (n : Nat) : Nat → List Arc
  | 0 => []
  | i + 1 => arcsAll d r n i ++ arcsRow d r i n

/-- an arc as five cells; R: where the matrix lies -/
def arcC (R : Nat) (a : Arc) : List Value := [.int .i64 (a.src : Nat), .int .i64 (a.dst : Nat), .int .i64 a.c, .int .i64 a.most, .pointer (some ⟨R + 1 + a.pi, a.pj, none⟩)]
def arcCs (R : Nat) (l : List Arc) : List Value := l.flatMap (arcC R)
theorem arcCs_app (R : Nat) (l : List Arc) (a : Arc) : arcCs R l ++ arcC R a = arcCs R (l ++ [a]) := by simp [arcCs]
theorem arcCs_len (R : Nat) (l : List Arc) : (arcCs R l).length = l.length * 5 := by
  induction l with
  | nil => rfl
  | cons a l ih => simp only [arcCs, List.flatMap_cons, List.length_append, List.length_cons] at ih ⊢; rw [ih]; simp [arcC]; omega
theorem arcsAt_len (d r : Nat → Nat → Int) (i j : Nat) : (arcsAt d r i j).length ≤ 2 := by unfold arcsAt; split <;> split <;> simp
theorem arcsRow_len (d r : Nat → Nat → Int) (i : Nat) : ∀ j, (arcsRow d r i j).length ≤ 2 * j
  | 0 => by simp [arcsRow]
  | j + 1 => by have := arcsRow_len d r i j; have := arcsAt_len d r i j; simp only [arcsRow, List.length_append]; omega
theorem arcsAll_len (d r : Nat → Nat → Int) (n : Nat) : ∀ i, (arcsAll d r n i).length ≤ 2 * n * i
  | 0 => by simp [arcsAll]
  | i + 1 => by have := arcsAll_len d r n i; have := arcsRow_len d r i n; simp only [arcsAll, List.length_append, Nat.mul_succ]; omega

/-- five cells that were just made -/
theorem new5 (w : World) (R : Nat) (a : Arc) (t : TypeId) : ∀ j u, (arcC R a)[j]? = some u → (w.alloc (.cells (arcC R a).toArray t)).cell? ((⟨w.heap.size, 0, none⟩ : Addr).add j) = some u := fun j u hj => by
  have hadd : (⟨w.heap.size, 0, none⟩ : Addr).add j = ⟨w.heap.size, j, none⟩ := by unfold Addr.add; split <;> simp_all
  rw [hadd]
  simp [go_sem]
  exact hj
theorem one5 (R : Nat) (a : Arc) : ∀ u ∈ arcC R a, u.oneCell' = true := fun u hu => by
  simp [arcC] at hu
  rcases hu with rfl | rfl | rfl | rfl | rfl <;> rfl
theorem infoA : (Tryz.prog.info? 164).map (fun i => (i.zero, i.size, i.bytes)) = some (some (.agg #[.int .i64 0, .int .i64 0, .int .i64 0, .int .i64 0, .pointer none]), 5, 40) := by kernel_rfl

set_option maxHeartbeats 4000000 in
set_option maxRecDepth 100000 in
theorem arcs_any (vd : Value) (R n : Nat) (d r : Nat → Nat → Int) (w : World) (hd : Mat w vd n (fun _ => n) d) (hr : OwnMat w R n r) (hn : n ≤ 8) (hRB : R + 1 + n ≤ w.heap.size) (hR : ∀ i j, i < n → j < n → 0 ≤ r i j ∧ r i j ≤ d i j ∧ d i j ≤ 1000) :
    Calls Tryz.prog 118 #[vd, .slice (some ⟨R, 0, none⟩) n n] w fun e w' => ∃ va vk, e = .returned (.slice va (arcsAll d r n n).length vk) ∧ w'.ownsRow w.heap.size 164 5 (.slice va (arcsAll d r n n).length vk) (arcsAll d r n n).length (arcCs R (arcsAll d r n n)) ∧ Below w.heap.size w w' := by
  obtain ⟨a, b, o, c, ra, rb, ro, rc, rfl, hs⟩ := hd
  have hm := hr.isMat
  have HS := Lib.hid hs
  have HM := Lib.hid hm
  have HRR := Lib.hid hR
  have HRB := Lib.hid hRB
  obtain ⟨i0, hi, hz0, hz1, hz2⟩ := info_parts infoA
  have KW0 := Lib.hid (Below.refl w.heap.size w)
  clear hs hm hR hr hRB
  go_enter Tryz.func118, Tryz.ntmps118
  go_wp2
  go_loopw [5, 12] (fun v5 v12 wr => ∃ k : Nat, k ≤ n ∧ v12 = .int .i64 (k : Nat) ∧ ∃ va vk, v5 = .slice va (arcsAll d r n k).length vk ∧ Hid (wr.ownsRow w.heap.size 164 5 (.slice va (arcsAll d r n k).length vk) (arcsAll d r n k).length (arcCs R (arcsAll d r n k))) ∧ Hid (Below w.heap.size w wr)) (fun _ v12 _ => n - (intOf v12).toNat)
  case atStart => exact ⟨0, by omega, rfl, none, 0, rfl, Lib.hid (World.ownsRow_nil _ _ _ _), KW0⟩
  case round =>
    clear KW0
    obtain ⟨k, hk, rfl, va0, vk0, rfl, OW0, KW0⟩ := hrel
    by_cases h : k < n
    · have HL := Lib.hid (arcsAll_len d r n k)
      have OW0 : Hid (wr.ownsRow w.heap.size 164 5 (.slice va0 (arcsAll d r n k ++ arcsRow d r k 0).length vk0) (arcsAll d r n k ++ arcsRow d r k 0).length (arcCs R (arcsAll d r n k ++ arcsRow d r k 0))) := by simpa [arcsRow] using OW0
      have hl0 : (arcsAll d r n k).length = (arcsAll d r n k ++ arcsRow d r k 0).length := by simp [arcsRow]
      rw [hl0]
      clear hl0
      go_wp2
      go_loopw [5, 17] (fun v5 v17 wr => ∃ j : Nat, j ≤ n ∧ v17 = .int .i64 (j : Nat) ∧ ∃ va vk, v5 = .slice va (arcsAll d r n k ++ arcsRow d r k j).length vk ∧ Hid (wr.ownsRow w.heap.size 164 5 (.slice va (arcsAll d r n k ++ arcsRow d r k j).length vk) (arcsAll d r n k ++ arcsRow d r k j).length (arcCs R (arcsAll d r n k ++ arcsRow d r k j))) ∧ Hid (Below w.heap.size w wr)) (fun _ v17 _ => n - (intOf v17).toNat)
      case atStart => exact ⟨0, by omega, rfl, va0, vk0, rfl, OW0, KW0⟩
      case round =>
        clear OW0 KW0
        obtain ⟨j, hj, rfl, va, vk, rfl, OW, KW⟩ := hrel
        by_cases h2 : j < n
        · have hm := HM.out.mono KW.out (Nat.le_refl _)
          have hs := HS.out.mono KW.out (Nat.le_refl _)
          have x1 := fun W => ixM hm.top k n h W
          have x2 := fun W => ixI (hm.row k h) j n h2 W
          have x3 := fun W => ixM hs.top k c h W
          have x4 := fun W => ixI (hs.row k h) j (rc k) h2 W
          have y1 := hm.top.cell k h
          have y2 := (hm.row k h).cell j h2
          have y3 := hs.top.cell k h
          have y4 := (hs.row k h).cell j h2
          simp only [ic, Nat.zero_add] at x1 x2 y1 y2 y4
          obtain ⟨b1, b2, b3⟩ := HRR.out k j h h2
          have hlen : (arcsAll d r n k ++ arcsRow d r k j).length ≤ 200 := by
            have := HL.out
            have := arcsRow_len d r k j
            have h5 : 2 * n * k ≤ 2 * 8 * 8 := Nat.mul_le_mul (by omega) (by omega)
            rw [List.length_append]; omega
          have HLEN := Lib.hid hlen
          have HSZ := Lib.hid KW.out.size
          have HRL := Lib.hid (show R + 1 + k < w.heap.size by have := HRB.out; omega)
          have HBL := Lib.hid (show b < w.heap.size ∧ rb k < w.heap.size from ⟨HS.out.top.lt (by omega), (HS.out.row k h).lt (by omega)⟩)
          clear hm hs hlen
          obtain ⟨L, hL⟩ : ∃ L, L = arcsAll d r n k ++ arcsRow d r k j := ⟨_, rfl⟩
          rw [← hL] at OW HLEN ⊢
          have HLL := Lib.hid hL
          clear hL
          obtain ⟨N, hN⟩ : ∃ N, N = L.length := ⟨_, rfl⟩
          rw [← hN] at OW HLEN ⊢
          have HN := Lib.hid hN
          clear hN
          by_cases hf : r k j < d k j
          · have d1 : decide (r k j < d k j) = true := by simpa using hf
            have HF := Lib.hid hf
            clear hf
            go_wp2
            go_quiet (fail)
            go_wp2
            have OW := Lib.hid (show (wr.drewN nq).ownsRow _ _ _ _ _ _ from OW.out)
            have KW := Lib.hid (below_drawN KW.out nq)
            have HSZ := Lib.hid KW.out.size
            have HBK := Lib.hid OW.out.lt
            have y2 : (wr.drewN nq).cell? _ = _ := y2
            have y3 : (wr.drewN nq).cell? _ = _ := y3
            have y4 : (wr.drewN nq).cell? _ = _ := y4
            clear y1
            have hwr : IntKind.i64.wrap (d k j - r k j) = d k j - r k j := by rw [IntKind.wrap_i64]; omega
            have g0 : (0:Int) ≤ (k:Int) := Int.natCast_nonneg k
            have g1 : (0:Int) ≤ (j:Int) := Int.natCast_nonneg j
            have g2 : (k:Int) < (n:Int) := by omega
            have g3 : (j:Int) < (n:Int) := by omega
            generalize wr.drewN nq = wA at *
            have hR := HRL.out
            have hbA := HBL.out.1
            have hbB := HBL.out.2
            go_region_held3 (fun w' => w'.cell? ⟨b, o + k, none⟩ = some (.slice (ra k) n (rc k)) ∧ w'.cell? ⟨rb k, ro k + j, none⟩ = some (.int .i64 (d k j)) ∧ w'.cell? ⟨R + 1 + k, j, none⟩ = some (.int .i64 (r k j)))
              (first
                | go_keep
                | (go_split_ands
                   have q1 : Value.ownBlock (.slice va N vk) ≠ some b := fun e => by have := (HBK.out b e).1; omega
                   have q2 : Value.ownBlock (.slice va N vk) ≠ some (rb k) := fun e => by have := (HBK.out (rb k) e).1; omega
                   have q3 : Value.ownBlock (.slice va N vk) ≠ some (R + 1 + k) := fun e => by have := (HBK.out (R + 1 + k) e).1; omega
                   have hz := HSZ.out
                   refine ⟨?_, ?_, ?_⟩
                   · (rw [hgrow.cell_far _ (by simp; omega) (Ne.symm q1)]; assumption)
                   · (rw [hgrow.cell_far _ (by simp; omega) (Ne.symm q2)]; assumption)
                   · (rw [hgrow.cell_far _ (by simp; omega) (Ne.symm q3)]; assumption)))
              ((refine step_append_lies _ (by rfl) _ _ _ (by rfl) w.heap.size 164 i0 _ 5 40 Tryz.underlying158 hi hz0 hz1 hz2 rfl (by omega) (.slice va N vk) N (arcCs R L) (by rfl) (OW.out.alloc _)
                  ⟨wA.heap.size, 0, none⟩ 1 1 (arcC R (fwdA d r k j)) (by rfl) (by rfl) (new5 wA R (fwdA d r k j) _) (one5 R (fwdA d r k j))
                  (by omega) (by have := HLEN.out; unfold maxLen; omega) (by have := HLEN.out; omega) (by simp; have := HSZ.out; omega) (wA.heap.size + 1) (by simp) ?_; intro gg cap w1 hown1 hgrow hat hlt))
            rw [arcCs_app] at hown1
            have OW := Lib.hid hown1
            have KW := Lib.hid (((KW.out.alloc KW.out.size _).drew).grown hgrow (by have := HSZ.out; simp; omega) (fun kk e => (HBK.out kk e).1))
            clear hown1 hgrow hat hlt y2 y3 y4
            have hm := HM.out.mono KW.out (Nat.le_refl _)
            have y1 := hm.top.cell k h
            have y2 := (hm.row k h).cell j h2
            simp only [ic, Nat.zero_add] at y1 y2
            clear hm
            by_cases hp : 0 < r k j
            · have d2 : decide (0 < r k j) = true := by simpa using hp
              have HP := Lib.hid hp
              have HBK := Lib.hid OW.out.lt
              have HSZ := Lib.hid KW.out.size
              clear hp
              go_wp2_with (at_builtin; refine wpList_append_own _ rfl (.tmp 65) (.tmp 73) 158 rfl w.heap.size 164 i0 _ 5 40 Tryz.underlying158 hi hz0 hz1 hz2 rfl (by decide) (.slice (some ⟨gg, 0, none⟩) (N + 1) cap) (N + 1) (arcCs R (L ++ [fwdA d r k j])) rfl (OW.out.alloc _) ⟨w1.heap.size, 0, none⟩ 1 1 (arcC R (bwdA r k j)) rfl rfl (new5 w1 R (bwdA r k j) _) (one5 R (bwdA r k j)) (by have := HLEN.out; unfold maxLen; omega) (by have := HLEN.out; omega) (by simp; have := HSZ.out; omega) ?_; intro v' w3 hown hgrow _; have KW := Lib.hid ((KW.out.alloc KW.out.size _).grown hgrow (by have := HSZ.out; simp; omega) (fun kk e => (HBK.out kk e).1)); rw [arcCs_app] at hown; obtain ⟨va', vk', rfl⟩ := own_shape hown; have OW := Lib.hid hown; clear hown hgrow)
              go_roundw
              case rel =>
                have e : arcsAll d r n k ++ arcsRow d r k (j + 1) = L ++ [fwdA d r k j] ++ [bwdA r k j] := by
                  have := HLL.out
                  simp only [arcsRow, ← List.append_assoc, ← this, arcsAt, if_pos HF.out, if_pos HP.out]
                  try simp
                have e2 : (L ++ [fwdA d r k j] ++ [bwdA r k j]).length = N + 1 + 1 := by have := HN.out; (try simp); omega
                refine ⟨j + 1, by omega, by go_num, va', vk', ?_, ?_, KW⟩
                · rw [e, e2]
                · rw [e, e2]; exact OW
              case measure => simp [intOf]; omega
            · have d2 : decide (0 < r k j) = false := by simpa using hp
              have HP := Lib.hid hp
              clear hp
              go_wp2
              go_roundw
              case rel =>
                have e : arcsAll d r n k ++ arcsRow d r k (j + 1) = L ++ [fwdA d r k j] := by
                  have := HLL.out
                  simp only [arcsRow, ← List.append_assoc, ← this, arcsAt, if_pos HF.out, if_neg (show ¬ 0 < r k j by have := HP.out; omega)]
                  try simp
                have e2 : (L ++ [fwdA d r k j]).length = N + 1 := by have := HN.out; (try simp); omega
                refine ⟨j + 1, by omega, by go_num, (some ⟨gg, 0, none⟩), cap, ?_, ?_, KW⟩
                · rw [e, e2]
                · rw [e, e2]; exact OW
              case measure => simp [intOf]; omega
          · have d1 : decide (r k j < d k j) = false := by simpa using hf
            have HF := Lib.hid hf
            clear hf
            go_wp2
            go_quiet (fail)
            have OW := Lib.hid (show (wr.drewN nq).ownsRow _ _ _ _ _ _ from OW.out)
            have KW := Lib.hid (below_drawN KW.out nq)
            clear y1 y2 y3 y4
            generalize wr.drewN nq = wA at *
            have hm := HM.out.mono KW.out (Nat.le_refl _)
            have y1 := hm.top.cell k h
            have y2 := (hm.row k h).cell j h2
            simp only [ic, Nat.zero_add] at y1 y2
            clear hm
            by_cases hp : 0 < r k j
            · have d2 : decide (0 < r k j) = true := by simpa using hp
              have HP := Lib.hid hp
              have HBK := Lib.hid OW.out.lt
              have HSZ := Lib.hid KW.out.size
              clear hp
              go_wp2_with (at_builtin; refine wpList_append_own _ rfl (.tmp 65) (.tmp 73) 158 rfl w.heap.size 164 i0 _ 5 40 Tryz.underlying158 hi hz0 hz1 hz2 rfl (by decide) (.slice va (N) vk) (N) (arcCs R (L)) rfl (OW.out.alloc _) ⟨wA.heap.size, 0, none⟩ 1 1 (arcC R (bwdA r k j)) rfl rfl (new5 wA R (bwdA r k j) _) (one5 R (bwdA r k j)) (by have := HLEN.out; unfold maxLen; omega) (by have := HLEN.out; omega) (by simp; have := HSZ.out; omega) ?_; intro v' w3 hown hgrow _; have KW := Lib.hid ((KW.out.alloc KW.out.size _).grown hgrow (by have := HSZ.out; simp; omega) (fun kk e => (HBK.out kk e).1)); rw [arcCs_app] at hown; obtain ⟨va', vk', rfl⟩ := own_shape hown; have OW := Lib.hid hown; clear hown hgrow)
              go_roundw
              case rel =>
                have e : arcsAll d r n k ++ arcsRow d r k (j + 1) = L ++ [bwdA r k j] := by
                  have := HLL.out
                  simp only [arcsRow, ← List.append_assoc, ← this, arcsAt, if_neg (show ¬ r k j < d k j by have := HF.out; omega), if_pos HP.out]
                  try simp
                have e2 : (L ++ [bwdA r k j]).length = N + 1 := by have := HN.out; (try simp); omega
                refine ⟨j + 1, by omega, by go_num, va', vk', ?_, ?_, KW⟩
                · rw [e, e2]
                · rw [e, e2]; exact OW
              case measure => simp [intOf]; omega
            · have d2 : decide (0 < r k j) = false := by simpa using hp
              have HP := Lib.hid hp
              clear hp
              go_wp2
              go_roundw
              case rel =>
                have e : arcsAll d r n k ++ arcsRow d r k (j + 1) = L := by
                  have := HLL.out
                  simp only [arcsRow, ← List.append_assoc, ← this, arcsAt, if_neg (show ¬ r k j < d k j by have := HF.out; omega), if_neg (show ¬ 0 < r k j by have := HP.out; omega)]
                  try simp
                have e2 : (L).length = N := by have := HN.out; (try simp); omega
                refine ⟨j + 1, by omega, by go_num, va, vk, ?_, ?_, KW⟩
                · rw [e, e2]
                · rw [e, e2]; exact OW
              case measure => simp [intOf]; omega
        · obtain rfl : j = n := by omega
          go_wp2
          go_roundw
          case rel => exact ⟨k + 1, by omega, by go_num, va, vk, rfl, OW, KW⟩
          case measure => simp [intOf]; omega
    · skip
      obtain rfl : k = n := by omega
      go_wp2
      go_ret
      exact ⟨va0, vk0, rfl, OW0.out, KW0.out⟩

end Go.Proofs.YtgmopcncbpdniaaGreat
