/- Nums of package linear: the texts of numbers of any size. -/
import Derived.Test.YtcnaagiicpkcpaaGreatMNumR
import Derived.Test.YtcnaagiicpkcpaaGreatMRing
import Derived.Test.YtcnaagiicpkcpaaGreatMPlainU
import Derived.Test.YtcnaagiicpkcpaaGreatMMkt2
set_option linter.unusedVariables false
set_option linter.unusedSimpArgs false
namespace Go.Proofs.YtcnaagiicpkcpaaGreat
open Go.RowKit
attribute [local go_sem ↓] Go.wp_at_zero Go.wp_at_succ
/-- texts, as a list of cells -/
def strL (ss : Nat → ByteArray) (n : Nat) : List Value := (List.range n).map (fun i => .string (ss i))
theorem strL_get (ss : Nat → ByteArray) (n i : Nat) (h : i < n) : (strL ss n)[i]? = some (.string (ss i)) := by simp [strL, h]
def setS (ss : Nat → ByteArray) (k : Nat) (s : ByteArray) (i : Nat) : ByteArray := if i = k then s else ss i
theorem strL_succ (ss : Nat → ByteArray) (k : Nat) (s : ByteArray) : strL ss k ++ [.string s] = strL (setS ss k s) (k + 1) := by
 unfold strL
 rw [List.range_succ, List.map_append]
 congr 1
 ·apply List.map_congr_left
  intro i hi
  have : i < k := List.mem_range.1 hi
  simp [setS, show i ≠ k by omega]
 ·simp [setS]
/-- texts of n numbers -/
structure TxtsOf (n : Nat) (q : Nat → Rat) (ss : Nat → ByteArray) : Prop where
 txt : ∀ j, j < n → FracTxt (ss j) (q j).num (q j).den
theorem TxtsOf.push {k : Nat} {q : Nat → Rat} {ss : Nat → ByteArray} {st : ByteArray} (h : TxtsOf k q ss) (hs : FracTxt st (q k).num (q k).den) : TxtsOf (k + 1) q (setS ss k st) := ⟨fun j hj => by
 unfold setS
 by_cases ej : j = k
 ·rw [if_pos ej, ej]; exact hs
 ·rw [if_neg ej]; exact h.txt j (by omega)⟩
set_option maxHeartbeats 2000000 in
set_option maxRecDepth 100000 in
theorem nums_any (pb n pc : Nat) (q : Nat → Rat) (K : Nat) (w : World) (hp : IsRats w pb 0 n q K) (hK : K ≤ 1000000000) (hn : n ≤ 1000) (hN : ∀ j, j < n → MaxD (q j).num.natAbs ∧ MaxD (q j).den) :
  Calls Tryz.prog 37 #[.slice (some ⟨pb, 0, none⟩) n pc] w fun e w' => ∃ va vk ss, e = .returned (.tuple #[.slice va n vk, .int .i64 0]) ∧ TxtsOf n q ss ∧ w'.ownsRow w.heap.size 58 1 (.slice va n vk) n (strL ss n) ∧ Below w.heap.size w w' := by
 have HP := Lib.hid hp
 have HN := Lib.hid hN
 obtain ⟨i0, hi, hz0, hz1, hz2⟩ := info_parts infoN
 have KW0 := Lib.hid (Below.refl w.heap.size w)
 clear hp hN
 go_enter Tryz.func37, Tryz.ntmps37
 go_wp2
 go_loopw [4, 11] (fun v4 v11 wr => ∃ k : Nat, k ≤ n ∧ v11 = .int .i64 (k : Nat) ∧ ∃ va vk ss, v4 = .slice va k vk ∧ Hid (TxtsOf k q ss) ∧ Hid (wr.ownsRow w.heap.size 58 1 (.slice va k vk) k (strL ss k)) ∧ Hid (Below w.heap.size w wr)) (fun _ v11 _ => n - (intOf v11).toNat)
 case atStart => exact ⟨0, by omega, rfl, none, 0, fun _ => ByteArray.empty, rfl, Lib.hid ⟨fun j hj => by omega⟩, Lib.hid (World.ownsRow_nil _ _ _ _), KW0⟩
 case round =>
  clear KW0
  obtain ⟨k, hk, rfl, va, vk, ss, rfl, TX, OW, KW⟩ := hrel
  by_cases h : k < n
  ·obtain ⟨s, a, m, c, a2, m2, c2, PP, KP⟩ := (HP.out.mono KW.out (Nat.le_refl _)) k h
   rw [Nat.zero_add] at PP
   obtain ⟨x0, x1, x2, x3, xl⟩ := PP
   have ixr := fun W => rowIx pb n pc k h W
   have HX := Lib.hid (KP.mono (boxes1 wr (.cells #[.bool s, .slice a m c, .bool false, .slice a2 m2 c2] 95)) (Nat.le_refl _))
   have KW1 := Lib.hid (KW.out.alloc KW.out.size (.cells #[.bool s, .slice a m c, .bool false, .slice a2 m2 c2] 95))
   have OW1 := Lib.hid (OW.out.alloc (.cells #[.bool s, .slice a m c, .bool false, .slice a2 m2 c2] 95))
   have HNk := Lib.hid (HN.out k h)
   clear KP
   go_wp2_with (first
    | (go_at_call 57; (with_reducible refine (rat_num_any _ (q k) K _ HX.out hK HNk.out.1 HNk.out.2).mono ?_); rintro e w2 ⟨st, rfl, hst, hb2⟩; have TX2 : Hid (TxtsOf (k + 1) q (setS ss k st)) := Lib.hid (TX.out.push hst); have KW2 := Lib.hid (KW1.out.trans (hb2.mono KW1.out.size)); have OW2 := Lib.hid (own_below OW1.out hb2); have HB2 := Lib.hid (Nat.le_trans KW1.out.size hb2.size); clear hb2 hst)
    | (at_builtin; refine wpList_append_own _ rfl (.tmp 23) (.tmp 25) 51 rfl w.heap.size 58 i0 (.string ByteArray.empty) 1 16 Tryz.underlying51 hi hz0 hz1 hz2 rfl (by decide) (.slice va k vk) k (strL ss k) rfl (OW2.out.alloc _) ⟨w2.heap.size, 0, none⟩ 1 1 [.string st] rfl rfl (new1 _ _ _) (one1 _ rfl) (by unfold maxLen; omega) (by omega) (by have := HB2.out; simp; omega) ?_; intro v' w3 hown hgrow _; have hbk := (OW2.out.alloc (.cells #[.string st] 58)).lt; have KW3 := Lib.hid ((KW2.out.alloc KW2.out.size _).grown hgrow (by have := HB2.out; simp; omega) (fun kk e => (hbk kk e).1)); rw [strL_succ] at hown; obtain ⟨va', vk', rfl⟩ := own_shape hown; have OW3 := Lib.hid hown; clear hown hgrow hbk))
   go_roundw
   case rel => exact ⟨k + 1, by omega, by go_num, va', vk', _, rfl, TX2, OW3, KW3⟩
   case measure => simp [intOf]; omega
  ·obtain rfl : k = n := by omega
   go_wp2
   go_ret2
   exact ⟨va, vk, ss, rfl, TX.out, OW.out, KW.out⟩
end Go.Proofs.YtcnaagiicpkcpaaGreat

/- Clear and Fails of package debt at the document's example. -/
namespace Go.Proofs.YtcnaagiicpkcpaaGreat
open Go.RowKit
attribute [local go_sem ↓] Go.wp_at_zero Go.wp_at_succ
theorem dL_debts : Debts 2 (fun _ => 2) dL := ⟨by omega, by omega, fun i hi => ⟨rfl, by unfold dL; rw [if_neg (by omega), if_neg (by omega)], fun j _ => ⟨(dL_range i j hi).1, (dL_range i j hi).2.1⟩⟩⟩
theorem cashL_range : ∀ i, i < 2 → 0 ≤ cashL i ∧ cashL i ≤ 1000 := fun i _ => by unfold cashL; split <;> omega
/-- the digits of the payments 3, 2 -/
def payN (j : Nat) : Nat := if j = 0 then 3 else 2
end Go.Proofs.YtcnaagiicpkcpaaGreat

/- Clear and Fails of package debt at any valid market. -/
namespace Go.Proofs.YtcnaagiicpkcpaaGreat
open Go.RowKit
attribute [local go_sem ↓] Go.wp_at_zero Go.wp_at_succ
theorem rng_of {n : Nat} {cash : Nat → Int} {m : Nat → Nat} {d : Nat → Nat → Int} (hD : Debts n m d) (hC : ∀ i, i < n → 0 ≤ cash i ∧ cash i ≤ 1000) (hd : ∀ i j, 0 ≤ d i j) : Rng n cash d := by
 refine ⟨fun i j hi hj => (hD.2.2 i hi).2.2 j hj, fun i hi => ?_, hC⟩
 have h8 : n ≤ 8 := hD.2.1
 have h2 : ∀ k, k ≤ n → sumF (d i) k ≤ 1000 * (k : Int) := by
  intro k
  induction k with
  | zero => intro _; simp [sumF]
  | succ k ih =>
   intro hk
   have h3 := ih (by omega)
   have h4 := ((hD.2.2 i hi).2.2 k (by omega)).2
   simp only [sumF]
   omega
 have h3 := h2 n (Nat.le_refl _)
 exact ⟨sumF_nn (hd i) n, by omega⟩
theorem pay_maxD {n : Nat} {cash : Nat → Int} {d : Nat → Nat → Int} {ps : (Nat → Bool) → Nat → Rat} (hR : Rng n cash d) (hn : n ≤ 8) (hd : ∀ i j, 0 ≤ d i j) (hps : PsOK n cash d ps) (q : Nat) : ∀ j, j < n → MaxD (PS n cash d ps q j).num.natAbs ∧ MaxD (PS n cash d ps q j).den := fun j hj => by
 obtain ⟨x, hx⟩ := ps_rdy hps hR hd q
 have h := pay_small hR hn hd (rnd_all hps hR hd q).nc hx.sol j hj
 exact ⟨⟨Nat.lt_of_le_of_lt h.2.1 bd_ten⟩, ⟨Nat.lt_of_le_of_lt h.2.2 bd_ten⟩⟩
/-- the last round -/
structure Last (n : Nat) (cash : Nat → Int) (d : Nat → Nat → Int) (ps : (Nat → Bool) → Nat → Rat) (q : Nat) : Prop where
 le : q ≤ n
 pos : ∀ r, r < q → 0 < rwM n cash d ps r
 zero : rwM n cash d ps q = 0
set_option maxHeartbeats 1000000 in
theorem clear_any (vc vd : Value) (n : Nat) (cash : Nat → Int) (m : Nat → Nat) (d : Nat → Nat → Int) (ps : (Nat → Bool) → Nat → Rat) (w : World) (hc : Ints w vc n cash) (hm : Mat w vd n m d) (hD : Debts n m d) (hC : ∀ i, i < n → 0 ≤ cash i ∧ cash i ≤ 1000) (hd : ∀ i j, 0 ≤ d i j) (hps : PsOK n cash d ps) :
  Calls Tryz.prog 24 #[vc, vd] w fun e w' => ∃ q va vk ss, e = .returned (.tuple #[.slice va n vk, .int .i64 0]) ∧ Last n cash d ps q ∧ TxtsOf n (PS n cash d ps q) ss ∧ Sl w' (.slice va n vk) n (fun j => .string (ss j)) ∧ Below w.heap.size w w' := by
 have HC := Lib.hid hc
 have HD := Lib.hid hm
 have HR := Lib.hid (rng_of hD hC hd)
 have h0 : 0 < n := hD.1
 have h8 : n ≤ 8 := hD.2.1
 have HDD := Lib.hid hd
 have HPS := Lib.hid hps
 have HDB := Lib.hid hD
 have HCB := Lib.hid hC
 obtain ⟨ca, cb, co, cc, rfl, hcs⟩ := hc
 obtain ⟨da, db, d_o, dc, ra, rb, ro, rc, rfl, hdm⟩ := hm
 clear hcs hdm hD hC hd hps
 go_enter Tryz.func24, Tryz.ntmps24
 go_wp2_with (first
  | (go_at_call 35; (with_reducible refine (read_ok _ _ n cash m d _ HC.out HD.out HDB.out HCB.out).mono ?_); rintro e w1 ⟨b, vt, rfl, hm, hb1⟩; have HM := Lib.hid hm; have KW := Lib.hid hb1; clear hm hb1)
  | (go_at_call 36; (with_reducible refine (rounds_any b n cash d _ _ _ ps _ HM.out h0 h8 HR.out HDD.out HPS.out).mono ?_); rintro e w2 ⟨q, oa, ok, ora, orc, P, rfl, hq1, hq2, hq3, -, hp, hb2⟩; have HL : Hid (Last n cash d ps q) := Lib.hid ⟨hq1, hq2, hq3⟩; have HP := Lib.hid hp.rats; have KW := Lib.hid (KW.out.trans (hb2.mono KW.out.size)); clear hp hb2 hq1 hq2 hq3)
  | (go_at_call 37; (with_reducible refine (nums_any P n n _ 200 _ HP.out (by omega) (by omega) (pay_maxD HR.out h8 HDD.out HPS.out q)).mono ?_); rintro e w3 ⟨va, vk, ss, rfl, htx, hv, hb3⟩; have HTX := Lib.hid htx; have HV := Lib.hid hv; have KW := Lib.hid (KW.out.trans (hb3.mono KW.out.size)); clear hv hb3 htx))
 go_ret2
 exact ⟨q, va, vk, ss, rfl, HL.out, HTX.out, Sl.of_own HV.out (fun i hi => strL_get ss n i hi), KW.out⟩
set_option maxHeartbeats 1000000 in
theorem fails_any (vc vd : Value) (n : Nat) (cash : Nat → Int) (m : Nat → Nat) (d : Nat → Nat → Int) (ps : (Nat → Bool) → Nat → Rat) (w : World) (hc : Ints w vc n cash) (hm : Mat w vd n m d) (hD : Debts n m d) (hC : ∀ i, i < n → 0 ≤ cash i ∧ cash i ≤ 1000) (hd : ∀ i j, 0 ≤ d i j) (hps : PsOK n cash d ps) :
  Calls Tryz.prog 25 #[vc, vd] w fun e w' => ∃ q va vk, e = .returned (.tuple #[.slice va q vk, .int .i64 0]) ∧ Last n cash d ps q ∧ Mat w' (.slice va q vk) q (rwM n cash d ps) (rwF n cash d ps) ∧ Below w.heap.size w w' := by
 have HC := Lib.hid hc
 have HD := Lib.hid hm
 have HR := Lib.hid (rng_of hD hC hd)
 have h0 : 0 < n := hD.1
 have h8 : n ≤ 8 := hD.2.1
 have HDD := Lib.hid hd
 have HPS := Lib.hid hps
 have HDB := Lib.hid hD
 have HCB := Lib.hid hC
 obtain ⟨ca, cb, co, cc, rfl, hcs⟩ := hc
 obtain ⟨da, db, d_o, dc, ra, rb, ro, rc, rfl, hdm⟩ := hm
 clear hcs hdm hD hC hd hps
 go_enter Tryz.func25, Tryz.ntmps25
 go_wp2_with (first
  | (go_at_call 35; (with_reducible refine (read_ok _ _ n cash m d _ HC.out HD.out HDB.out HCB.out).mono ?_); rintro e w1 ⟨b, vt, rfl, hm, hb1⟩; have HM := Lib.hid hm; have KW := Lib.hid hb1; clear hm hb1)
  | (go_at_call 36; (with_reducible refine (rounds_any b n cash d _ _ _ ps _ HM.out h0 h8 HR.out HDD.out HPS.out).mono ?_); rintro e w2 ⟨q, oa, ok, ora, orc, P, rfl, hq1, hq2, hq3, hg, -, hb2⟩; have HL : Hid (Last n cash d ps q) := Lib.hid ⟨hq1, hq2, hq3⟩; have HG := Lib.hid hg.mat; have KW := Lib.hid (KW.out.trans (hb2.mono KW.out.size)); clear hg hb2 hq1 hq2 hq3))
 go_ret2
 exact ⟨q, oa, ok, rfl, HL.out, HG.out, KW.out⟩
end Go.Proofs.YtcnaagiicpkcpaaGreat

/- The payments of a market. -/
namespace Go.Proofs.YtcnaagiicpkcpaaGreat
open Go.RowKit
/-- p are the payments of the market -/
structure Pays (n : Nat) (cash : Nat → Int) (d : Nat → Nat → Int) (F : Nat → Bool) (p : Nat → Rat) : Prop where
 rnd : RndJ n (cashQ cash) (totQ n d) (shQ n d) F
 sol : SolF n (cashQ cash) (totQ n d) (shQ n d) F p
 clr : ClrQ n (cashQ cash) (totQ n d) (shQ n d) p
 no : ∀ i, i < n → F i = false → totQ n d i ≤ hasP n (cashQ cash) (shQ n d) p i
theorem last_no {n : Nat} {cash : Nat → Int} {d : Nat → Nat → Int} {ps : (Nat → Bool) → Nat → Rat} {q : Nat} (h : Last n cash d ps q) : ∀ i, i < n → NW n cash d ps q i = false := fun i hi => by
 rcases Bool.eq_false_or_eq_true (NW n cash d ps q i) with e | e
 ·have h1 := (frL_rank _ n i hi e).1
  have h2 := h.zero
  unfold rwM at h2
  omega
 ·exact e
theorem pays_of {n : Nat} {cash : Nat → Int} {d : Nat → Nat → Int} {ps : (Nat → Bool) → Nat → Rat} {q : Nat} (hR : Rng n cash d) (hd : ∀ i j, 0 ≤ d i j) (hps : PsOK n cash d ps) (h : Last n cash d ps q) : Pays n cash d (FS n cash d ps q) (PS n cash d ps q) := by
 obtain ⟨x, hx⟩ := ps_rdy hps hR hd q
 have hJ := rnd_all hps hR hd q
 have hno : ∀ i, i < n → FS n cash d ps q i = false → totQ n d i ≤ hasP n (cashQ cash) (shQ n d) (PS n cash d ps q) i := fun i hi hF => by
  have h1 := last_no h i hi
  refine Rat.not_lt.1 (fun hlt => ?_)
  rw [nw_iff, hF, decide_eq_true hlt] at h1
  cases h1
 exact ⟨hJ, hx.sol, sol_clears (mktQ_of hR hd) hJ hx.sol hno, hno⟩
end Go.Proofs.YtcnaagiicpkcpaaGreat

/- A number has one text. -/
namespace Go.Proofs.YtcnaagiicpkcpaaGreat
open Go.RowKit
theorem Len10.uniq {x L M : Nat} (h : Len10 x L) (h' : Len10 x M) : L = M := by
 rcases Nat.eq_zero_or_pos x with e | e
 ·rw [h.zero e, h'.zero e]
 ·obtain ⟨a1, a2⟩ := h.ge e
  obtain ⟨b1, b2⟩ := h'.ge e
  have key : ∀ {L M : Nat}, 10 ^ (L - 1) ≤ x → x < 10 ^ M → 0 < L → L ≤ M := fun h1 h2 h3 => by
   have h4 := (Nat.pow_lt_pow_iff_right (by omega : 1 < 10)).1 (Nat.lt_of_le_of_lt h1 h2)
   omega
  exact Nat.le_antisymm (key a2 h'.lt a1) (key b2 h.lt b1)
theorem IsTxt.uniq {s t : ByteArray} {x : Nat} (h : IsTxt s x) (h' : IsTxt t x) : s = t := by
 obtain ⟨L, h1, h2, h3⟩ := h
 obtain ⟨M, g1, g2, g3⟩ := h'
 obtain rfl := h1.uniq g1
 have hs : s.data.size = t.data.size := by
  have a : s.data.size = s.size := rfl
  have b : t.data.size = t.size := rfl
  omega
 have hd : s.data = t.data := by
  apply Array.ext hs
  intro i hi hj
  apply UInt8.toNat_inj.1
  have a := h3 i hi
  have b := g3 i hj
  exact a.trans b.symm
 cases s; cases t; simp_all
theorem FracTxt.uniq {s t : ByteArray} {p : Int} {d : Nat} (h : FracTxt s p d) (h' : FracTxt t p d) : s = t := by
 obtain ⟨a, h1, h2⟩ := h
 obtain ⟨b, g1, g2⟩ := h'
 obtain rfl := h1.uniq g1
 rcases h2 with ⟨hd, rfl⟩ | ⟨hd, u, hu, rfl⟩
 ·rcases g2 with ⟨_, rfl⟩ | ⟨hd2, _⟩
  ·rfl
  ·exact absurd hd hd2
 ·rcases g2 with ⟨hd2, _⟩ | ⟨_, v, hv, rfl⟩
  ·exact absurd hd2 hd
  ·rw [hu.uniq hv]
end Go.Proofs.YtcnaagiicpkcpaaGreat

/- Clear and Fails of package debt at the document's example, by the general law. -/
namespace Go.Proofs.YtcnaagiicpkcpaaGreat
open Go.RowKit
theorem dL_pos (i j : Nat) : 0 ≤ dL i j := by unfold dL; split <;> (try split) <;> omega
theorem live_has (p : Nat → Rat) : hasP 2 (cashQ cashL) (shQ 2 dL) p 0 = 1 + p 1 ∧ hasP 2 (cashQ cashL) (shQ 2 dL) p 1 = p 0 := by
 have a : shQ 2 dL 0 0 = 0 := by decide +kernel
 have b : shQ 2 dL 1 0 = 1 := by decide +kernel
 have c : shQ 2 dL 0 1 = 1 := by decide +kernel
 have e : shQ 2 dL 1 1 = 0 := by decide +kernel
 have f : cashQ cashL 0 = 1 := by decide +kernel
 have g : cashQ cashL 1 = 0 := by decide +kernel
 unfold hasP
 simp only [sumQ, a, b, c, e, f, g]
 constructor <;> grind
theorem live_tot : totQ 2 dL 0 = 4 ∧ totQ 2 dL 1 = 2 := by constructor <;> decide +kernel
theorem live_pays {ps : (Nat → Bool) → Nat → Rat} {q : Nat} (hps : PsOK 2 cashL dL ps) (h : Last 2 cashL dL ps q) : PS 2 cashL dL ps q 0 = 3 ∧ PS 2 cashL dL ps q 1 = 2 := by
 have hc := (pays_of (rng_of dL_debts cashL_range dL_pos) dL_pos hps h).clr
 generalize PS 2 cashL dL ps q = p at hc
 have h0 := hc.eq 0 (by omega)
 have h1 := hc.eq 1 (by omega)
 have t0 := hc.tot 0 (by omega)
 have t1 := hc.tot 1 (by omega)
 have s0 := hc.has 0 (by omega)
 have s1 := hc.has 1 (by omega)
 rw [live_tot.1, (live_has p).1] at *
 rw [live_tot.2, (live_has p).2] at *
 rcases h0 with a | a <;> rcases h1 with b | b <;> constructor <;> grind
theorem live_zero {ps : (Nat → Bool) → Nat → Rat} (hps : PsOK 2 cashL dL ps) : NW 2 cashL dL ps 0 0 = true ∧ NW 2 cashL dL ps 0 1 = false := by
 have hR := rng_of dL_debts cashL_range dL_pos
 obtain ⟨x, hx⟩ := ps_rdy hps hR dL_pos 0
 have h0 := hx.sol.no 0 (by omega) rfl
 have h1 := hx.sol.no 1 (by omega) rfl
 rw [live_tot.1] at h0
 rw [live_tot.2] at h1
 have e : ∀ i, FS 2 cashL dL ps 0 i = false := fun _ => rfl
 constructor
 ·rw [nw_iff, e, (live_has _).1, live_tot.1, h1]; decide +kernel
 ·rw [nw_iff, e, (live_has _).2, live_tot.2, h0]; decide +kernel
theorem live_one {ps : (Nat → Bool) → Nat → Rat} (hps : PsOK 2 cashL dL ps) : ∀ i, i < 2 → NW 2 cashL dL ps 1 i = false := by
 have hR := rng_of dL_debts cashL_range dL_pos
 obtain ⟨x, hx⟩ := ps_rdy hps hR dL_pos 1
 obtain ⟨n0, n1⟩ := live_zero hps
 have f0 : FS 2 cashL dL ps 1 0 = true := by rw [fs_succ, n0, Bool.or_true]
 have f1 : FS 2 cashL dL ps 1 1 = false := by rw [fs_succ, n1]; rfl
 have h0 := hx.sol.on 0 (by omega) f0
 have h1 := hx.sol.no 1 (by omega) f1
 rw [(live_has _).1] at h0
 rw [live_tot.2] at h1
 intro i hi
 rw [nw_iff]
 match i, hi with
 | 0, _ => rw [f0]; rfl
 | 1, _ =>
  have h2 : PS 2 cashL dL ps 1 0 = 3 := by
   have e : PS 2 cashL dL ps 1 1 = 2 := h1
   have e2 : PS 2 cashL dL ps 1 0 = 1 + PS 2 cashL dL ps 1 1 := h0
   rw [e2, e]; decide +kernel
  rw [f1, (live_has _).2, live_tot.2, h2]; decide +kernel
theorem live_last {ps : (Nat → Bool) → Nat → Rat} {q : Nat} (hps : PsOK 2 cashL dL ps) (h : Last 2 cashL dL ps q) : q = 1 ∧ rwM 2 cashL dL ps 0 = 1 ∧ rwF 2 cashL dL ps 0 0 = 0 := by
 obtain ⟨n0, n1⟩ := live_zero hps
 have e0 : frL (NW 2 cashL dL ps 0) 2 = [0] := by simp [frL, n0, n1]
 have m0 : rwM 2 cashL dL ps 0 = 1 := by unfold rwM rankF; rw [e0]; rfl
 have m1 : rwM 2 cashL dL ps 1 = 0 := by
  unfold rwM rankF
  have : frL (NW 2 cashL dL ps 1) 2 = [] := by simp [frL, live_one hps 0 (by omega), live_one hps 1 (by omega)]
  rw [this]; rfl
 refine ⟨?_, m0, by unfold rwF frN; rw [e0]; rfl⟩
 have h1 := h.zero
 by_cases a : q = 0
 ·subst a; omega
 ·by_cases b : q = 1
  ·exact b
  ·have := h.pos 1 (by omega); omega
theorem live_txt (N : Nat) (h1 : 0 < N) (h2 : N < 10) : FracTxt (digS N) ((N : Nat) : Int) 1 := by
 refine ⟨digS N, ⟨1, ⟨by simpa using h2, fun e => by omega, fun _ => ⟨by omega, by simp; omega⟩⟩, rfl, fun i hi => ?_⟩, .inl ⟨rfl, by rw [if_neg (by omega)]⟩⟩
 have : i = 0 := by rw [digS_size] at hi; omega
 subst this
 have h3 : N = 1 ∨ N = 2 ∨ N = 3 ∨ N = 4 ∨ N = 5 ∨ N = 6 ∨ N = 7 ∨ N = 8 ∨ N = 9 := by omega
 rcases h3 with e | e | e | e | e | e | e | e | e <;> subst e <;> rfl
theorem clear_live2 (vc vd : Value) (w : World) (hc : Ints w vc 2 cashL) (hd : Mat w vd 2 (fun _ => 2) dL) :
  Calls Tryz.prog 24 #[vc, vd] w fun e w' => ∃ v, e = .returned (.tuple #[v, .int .i64 0]) ∧ Sl w' v 2 (fun j => .string (digS (payN j))) ∧ Below w.heap.size w w' := by
 obtain ⟨ps, hps⟩ := ps_ex (rng_of dL_debts cashL_range dL_pos) (by omega) dL_pos
 refine (clear_any vc vd 2 cashL (fun _ => 2) dL ps w hc hd dL_debts cashL_range dL_pos hps).mono ?_
 rintro e w' ⟨q, va, vk, ss, rfl, hl, ht, hs, hb⟩
 obtain ⟨p0, p1⟩ := live_pays hps hl
 obtain ⟨a, b, o, c, e, h2⟩ := hs
 refine ⟨_, rfl, ⟨a, b, o, c, e, h2.congr (fun i hi => ?_)⟩, hb⟩
 congr 1
 have h := ht.txt i hi
 match i, hi with
 | 0, _ => rw [p0] at h; exact h.uniq (live_txt 3 (by omega) (by omega))
 | 1, _ => rw [p1] at h; exact h.uniq (live_txt 2 (by omega) (by omega))
theorem fails_live2 (vc vd : Value) (w : World) (hc : Ints w vc 2 cashL) (hd : Mat w vd 2 (fun _ => 2) dL) :
  Calls Tryz.prog 25 #[vc, vd] w fun e w' => ∃ va vk, e = .returned (.tuple #[.slice va 1 vk, .int .i64 0]) ∧ Mat w' (.slice va 1 vk) 1 (fun _ => 1) (fun _ _ => 0) ∧ Below w.heap.size w w' := by
 obtain ⟨ps, hps⟩ := ps_ex (rng_of dL_debts cashL_range dL_pos) (by omega) dL_pos
 refine (fails_any vc vd 2 cashL (fun _ => 2) dL ps w hc hd dL_debts cashL_range dL_pos hps).mono ?_
 rintro e w' ⟨q, va, vk, rfl, hl, hm, hb⟩
 obtain ⟨rfl, m0, f0⟩ := live_last hps hl
 refine ⟨va, vk, rfl, ?_, hb⟩
 obtain ⟨a, b, o, c, ra, rb, ro, rc, hv, h⟩ := hm.row_len (m' := fun _ => 1) (fun i hi => by
  obtain rfl : i = 0 := by omega
  exact m0)
 refine ⟨a, b, o, c, ra, rb, ro, rc, hv, ⟨h.top, fun i hi => (h.row i hi).congr (fun j hj => ?_)⟩⟩
 obtain rfl : i = 0 := by omega
 obtain rfl : j = 0 := by omega
 unfold ic
 rw [f0]
end Go.Proofs.YtcnaagiicpkcpaaGreat
