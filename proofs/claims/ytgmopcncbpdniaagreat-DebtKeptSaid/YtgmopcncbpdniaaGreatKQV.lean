/- Clear for the laws: the texts of payments that clear; more cash, no payment falls. -/
import Derived.Test.YtgmopcncbpdniaaGreatKClr
import Derived.Test.YtgmopcncbpdniaaGreatKRefQs
import Derived.Test.YtgmopcncbpdniaaGreatKSolve1
import Derived.Maps.AppendAt
import Derived.Laws.Rows
import Derived.RegionTactic
import Derived.Deep.DeepCutAuto
import Derived.Deep.CutBlock
import Derived.Test.YtgmopcncbpdniaaGreatKBig18
import Derived.Test.YtgmopcncbpdniaaGreatKBig17
import Derived.Test.YtgmopcncbpdniaaGreatKPlainB
set_option linter.unusedVariables false
set_option linter.unusedSimpArgs false
namespace Go.Proofs.YtgmopcncbpdniaaGreat
open Go.RowKit
/-- p are the payments of the market -/
structure Pays (n : Nat) (cash : Nat → Int) (d : Nat → Nat → Int) (F : Nat → Bool) (p : Nat → Rat) : Prop where
  rnd : RndJ n (cashQ cash) (totQ n d) (shQ n d) F
  sol : SolF n (cashQ cash) (totQ n d) (shQ n d) F p
  clr : ClrQ n (cashQ cash) (totQ n d) (shQ n d) p
  no : ∀ i, i < n → F i = false → totQ n d i ≤ hasP n (cashQ cash) (shQ n d) p i
theorem last_no {n : Nat} {cash : Nat → Int} {d : Nat → Nat → Int} {ps : (Nat → Bool) → Nat → Rat} {q : Nat} (h : Last n cash d ps q) : ∀ i, i < n → NW n cash d ps q i = false := fun i hi => by
  rcases Bool.eq_false_or_eq_true (NW n cash d ps q i) with e | e
  · have h1 := (frL_rank _ n i hi e).1
    have h2 := h.zero
    unfold rwM at h2
    omega
  · exact e
theorem pays_of {n : Nat} {cash : Nat → Int} {d : Nat → Nat → Int} {ps : (Nat → Bool) → Nat → Rat} {q : Nat} (hR : Rng n cash d) (hd : ∀ i j, 0 ≤ d i j) (hps : PsOK n cash d ps) (h : Last n cash d ps q) : Pays n cash d (FS n cash d ps q) (PS n cash d ps q) := by
  obtain ⟨x, hx⟩ := ps_rdy hps hR hd q
  have hJ := rnd_all hps hR hd q
  have hno : ∀ i, i < n → FS n cash d ps q i = false → totQ n d i ≤ hasP n (cashQ cash) (shQ n d) (PS n cash d ps q) i := fun i hi hF => by
    have h1 := last_no h i hi
    refine Rat.not_lt.1 (fun hlt => ?_)
    rw [nw_iff, hF, decide_eq_true hlt] at h1
    cases h1
  exact ⟨hJ, hx.sol, sol_clears (mktQ_of hR hd) hJ hx.sol hno, hno⟩
theorem txtq_of {n : Nat} {cash : Nat → Int} {d : Nat → Nat → Int} {ps : (Nat → Bool) → Nat → Rat} {q : Nat} {ss : Nat → ByteArray} (hR : Rng n cash d) (hn : n ≤ 8) (hd : ∀ i j, 0 ≤ d i j) (hps : PsOK n cash d ps) (h : TxtsOf n (PS n cash d ps q) ss) : TxtQs n (PS n cash d ps q) ss :=
  ⟨fun j hj => ⟨h.txt j hj, (pay_maxD hR hn hd hps q j hj).1, (pay_maxD hR hn hd hps q j hj).2⟩⟩
end Go.Proofs.YtgmopcncbpdniaaGreat

/- What firms keep: of few digits. -/
set_option linter.unusedVariables false
set_option linter.unusedSimpArgs false
namespace Go.Proofs.YtgmopcncbpdniaaGreat
variable {n : Nat} {cash : Nat → Int} {d : Nat → Nat → Int}
/-- what firm i keeps -/
def keepP (n : Nat) (cash : Nat → Int) (d : Nat → Nat → Int) (p : Nat → Rat) (i : Nat) : Rat := hasP n (cashQ cash) (shQ n d) p i - p i
/-- the equations of payments, and one more unknown: what firm i keeps -/
def keepI (n : Nat) (cash : Nat → Int) (d : Nat → Nat → Int) (F : Nat → Bool) (i r j : Nat) : Int :=
  if r < n then (if j < n then payI n cash d F r j else if j = n then 0 else payI n cash d F r n)
  else (if j < n then (if j = i then tI n d i else 0) - eI n d j i else if j = n then 1 else cash i)
theorem keepI_low (F : Nat → Bool) (i r : Nat) (hr : r < n) (z : Nat → Rat) : sumQ (fun j => (keepI n cash d F i r j : Rat) * z j) (n + 1) = sumQ (fun j => (payI n cash d F r j : Rat) * z j) n := by
  simp only [sumQ]
  have e : sumQ (fun j => (keepI n cash d F i r j : Rat) * z j) n = sumQ (fun j => (payI n cash d F r j : Rat) * z j) n := sumQ_congr n (fun j hj => by
    unfold keepI; rw [if_pos hr, if_pos hj])
  rw [e]
  have e2 : keepI n cash d F i r n = 0 := by unfold keepI; rw [if_pos hr, if_neg (Nat.lt_irrefl _), if_pos rfl]
  rw [e2]; simp [Rat.add_zero]
theorem keepI_top (hd : ∀ i j, 0 ≤ d i j) (F : Nat → Bool) (i : Nat) (hi : i < n) (z : Nat → Rat) : sumQ (fun j => (keepI n cash d F i n j : Rat) * z j) (n + 1) = ((tI n d i : Int) : Rat) * z i - sumQ (fun j => ((tI n d j : Int) : Rat) * z j * shQ n d j i) n + z n := by
  simp only [sumQ]
  have e : sumQ (fun j => (keepI n cash d F i n j : Rat) * z j) n = sumQ (fun j => (if j = i then ((tI n d i : Int) : Rat) * z i else 0)) n - sumQ (fun j => ((tI n d j : Int) : Rat) * z j * shQ n d j i) n := by
    rw [← sumQ_sub]
    refine sumQ_congr n (fun j hj => ?_)
    have e2 : ((tI n d j : Int) : Rat) * z j * shQ n d j i = ((eI n d j i : Int) : Rat) * z j := by
      rw [shQ_eq, Rat.div_def]
      have := tI_ne (n := n) hd j
      have h2 := Rat.mul_inv_cancel _ this
      grind
    rw [e2]
    unfold keepI
    rw [if_neg (Nat.lt_irrefl _), if_pos hj, Rat.intCast_sub]
    by_cases e : j = i
    · subst e; simp; grind
    · simp [e]; grind
  rw [e, sumQ_one _ i n hi (fun k _ hn => if_neg hn), if_pos rfl]
  have e2 : keepI n cash d F i n n = 1 := by unfold keepI; rw [if_neg (Nat.lt_irrefl _), if_neg (Nat.lt_irrefl _), if_pos rfl]
  rw [e2]; simp
theorem keepI_sys (hR : Rng n cash d) (hn : n ≤ 8) (hd : ∀ i j, 0 ≤ d i j) {F : Nat → Bool} (hF : NoClosed n (shQ n d) (fun i => F i = true)) {p : Nat → Rat} (hp : SolF n (cashQ cash) (totQ n d) (shQ n d) F p) (i : Nat) (hi : i < n) :
    SysI (n + 1) (n + 1) (fun _ => False) (keepI n cash d F i) 200000 (fun j => if j < n then p j / ((tI n d j : Int) : Rat) else keepP n cash d p i) := by
  have H := payI_sys hR hn hd hF hp
  have hq : ∀ j, ((tI n d j : Int) : Rat) * (p j / ((tI n d j : Int) : Rat)) = p j := fun j => by
    have h1 := tI_ne (n := n) hd j
    have h2 := Rat.mul_inv_cancel _ h1
    rw [Rat.div_def]; grind
  refine ⟨fun r j hr hj => ?_, fun _ _ _ _ h => h.elim, fun r hr => ?_, fun z _ hz => ?_⟩
  · unfold keepI
    by_cases h1 : r < n
    · rw [if_pos h1]
      by_cases h2 : j < n
      · rw [if_pos h2]; exact H.bnd r j h1 (by omega)
      · rw [if_neg h2]
        split
        · simp
        · exact H.bnd r n h1 (Nat.le_refl _)
    · rw [if_neg h1]
      have t1 := hR.tot i hi
      have c1 := hR.csh i hi
      have et : tI n d i ≤ 100000 ∧ 0 < tI n d i := ⟨by unfold tI; split <;> omega, tI_pos hd i⟩
      by_cases h2 : j < n
      · rw [if_pos h2]
        have ee : 0 ≤ eI n d j i ∧ eI n d j i ≤ 1000 := ⟨eI_nn hd j i, by unfold eI; have := (hR.deb j i h2 hi).2; split <;> omega⟩
        split <;> omega
      · rw [if_neg h2]
        split <;> omega
  · by_cases h1 : r < n
    · rw [keepI_low F i r h1]
      have e := H.sol r h1
      rw [sumQ_congr n (g := fun j => (payI n cash d F r j : Rat) * (p j / ((tI n d j : Int) : Rat))) (fun j hj => by rw [if_pos hj]), e]
      unfold keepI
      rw [if_pos h1, if_neg (by omega), if_neg (by omega)]
    · obtain rfl : r = n := by omega
      rw [keepI_top hd F i hi]
      rw [if_pos hi, if_neg (Nat.lt_irrefl _), hq i, sumQ_congr r (g := fun j => p j * shQ r d j i) (fun j hj => by rw [if_pos hj, hq j])]
      unfold keepI
      rw [if_neg (Nat.lt_irrefl _), if_neg (by omega), if_neg (by omega)]
      unfold keepP hasP cashQ
      grind
  · have h0 : ∀ j, j < n → z j = 0 := H.ker z (fun j _ h => h.elim) (fun r hr => by rw [← keepI_low F i r hr]; exact hz r (by omega))
    intro j hj
    by_cases h1 : j < n
    · exact h0 j h1
    · obtain rfl : j = n := by omega
      have h2 := hz j (by omega)
      rw [keepI_top hd F i hi, h0 i hi, sumQ_eq_zero j (fun k hk => by rw [h0 k hk]; simp)] at h2
      simp at h2
      grind
theorem bd_keep : bdI 200000 9 < 10 ^ 4000 := by decide +kernel
/-- what firms keep is of few digits -/
theorem keep_small (hR : Rng n cash d) (hn : n ≤ 8) (hd : ∀ i j, 0 ≤ d i j) {F : Nat → Bool} (hF : NoClosed n (shQ n d) (fun i => F i = true)) {p : Nat → Rat} (hp : SolF n (cashQ cash) (totQ n d) (shQ n d) F p) (i : Nat) (hi : i < n) :
    (keepP n cash d p i).num.natAbs ≤ bdI 200000 9 ∧ (keepP n cash d p i).den ≤ bdI 200000 9 := by
  obtain ⟨P, Q, h1, h2, h3, h4⟩ := (keepI_sys hR hn hd hF hp i hi).bound n (by omega)
  have hb := bdI_mono 200000 (n + 1) 9 (by omega)
  rw [if_neg (Nat.lt_irrefl _)] at h4
  obtain ⟨k1, k2⟩ := lowest_le h1 h4
  exact ⟨Nat.le_trans k1 (Nat.le_trans h2 hb), Nat.le_trans k2 (Nat.le_trans h3 hb)⟩
end Go.Proofs.YtgmopcncbpdniaaGreat

/- What all firms keep is what they had. -/
set_option linter.unusedVariables false
set_option linter.unusedSimpArgs false
namespace Go.Proofs.YtgmopcncbpdniaaGreat
variable {n : Nat} {cash : Nat → Int} {d : Nat → Nat → Int}
/-- the shares of a firm that owes add up to 1 -/
theorem shQ_sum (hd : ∀ i j, 0 ≤ d i j) (j : Nat) (h : sumF (d j) n ≠ 0) : sumQ (fun i => shQ n d j i) n = 1 := by
  rw [sumQ_congr n (g := fun i => ((tI n d j : Int) : Rat)⁻¹ * ((eI n d j i : Int) : Rat)) (fun i _ => by rw [shQ_eq, Rat.div_def, Rat.mul_comm]), sumQ_mul]
  have h1 := tI_ne (n := n) hd j
  unfold tI eI at *
  simp only [h, if_false] at h1 ⊢
  rw [← sumF_cast, Rat.inv_mul_cancel _ h1]
theorem keep_sum (hd : ∀ i j, 0 ≤ d i j) {p : Nat → Rat} (h0 : ∀ i, i < n → 0 ≤ p i) (h1 : ∀ i, i < n → p i ≤ totQ n d i) :
    sumQ (fun i => keepP n cash d p i - cashQ cash i) n = 0 := by
  have e1 : sumQ (fun i => keepP n cash d p i - cashQ cash i) n = sumQ (fun i => sumQ (fun j => p j * shQ n d j i) n) n - sumQ (fun i => p i) n := by
    rw [← sumQ_sub]
    refine sumQ_congr n (fun i _ => ?_)
    unfold keepP hasP
    grind
  have e2 : sumQ (fun j => sumQ (fun i => p j * shQ n d j i) n) n = sumQ (fun j => p j) n := sumQ_congr n (fun j hj => by
    rw [sumQ_mul]
    by_cases h : sumF (d j) n = 0
    · have h2 := h0 j hj
      have h3 := h1 j hj
      unfold totQ at h3
      rw [h] at h3
      have h4 : p j = 0 := Rat.le_antisymm (by simpa using h3) h2
      rw [h4, Rat.zero_mul]
    · rw [shQ_sum hd j h, Rat.mul_one])
  rw [e1, sumQ_swap, e2]
  grind
end Go.Proofs.YtgmopcncbpdniaaGreat

/- append at a step of a region that draws its order: numbers are kept. -/
set_option linter.unusedVariables false
set_option linter.unusedSimpArgs false
namespace Go.Proofs.YtgmopcncbpdniaaGreat
open Go.RowKit
section
variable {P : Program} {w : World}
theorem wp_append_kind {o : Oper} {a : Act} {K : Act → World → Prop} {Q : Exit → Act → World → Prop} (s x : Operand) (t : TypeId)
    (ho : o.op = .call { callee := .builtin .append, args := #[s, x], argTypes := #[t, t] })
    (base : Nat) (e : TypeId) (i : TypeInfo) (z : Value) (size bytes : Nat) (ht : P.underlying t = some (.slice e)) (hi : P.info? e = some i) (hz : i.zero = some z)
    (hsize : i.size = size) (hby : i.bytes = bytes) (hzs : z.cells.size = size) (hsz : 0 < size)
    (v : Value) (n : Nat) (xs : List Value) (hs : a.eval s = v) (hown : w.ownsRow base e size v n xs) (hkind : KindB w v) (hzk : ∀ u ∈ z.cells.toList, NoLimb u)
    (ad : Addr) (m c : Nat) (news : List Value) (hx : a.eval x = .slice (some ad) m c) (hl : news.length = m * size) (hnews : ∀ j u, news[j]? = some u → w.cell? (ad.add j) = some u) (h1 : ∀ u ∈ news, u.oneCell' = true) (hnk : ∀ u ∈ news, NoLimb u)
    (h63 : n + m ≤ maxLen) (hbytes : (n + m) * bytes ≤ 140737488355328) (hbase : base ≤ w.heap.size) (hm : 0 < m)
    (h : ∀ v' w', w'.ownsRow base e size v' (n + m) (xs ++ news) → w.grownBy w' v.ownBlock → (v'.ownBlock = v.ownBlock ∨ v'.ownBlock = some w.heap.size) → KindB w' v' → K (a.put o.dst v') w') : o.wp P a w K Q := by
  obtain ⟨v', w', hr, h2, h3, h5, h6⟩ := run_append_kind (P := P) base t o.type e i z size bytes ht hi hz hsize hby hzs hsz v n xs hown hkind hzk ad m c news hl hnews h1 hnk h63 hbytes hbase hm
  unfold Oper.wp execOp
  simp only [ho, resolve, invoke, builtin, Sem.run_bind, Sem.run_pure, Result.andThen_ok, List.map_toArray, List.map_cons, List.map_nil, hs, hx, hr]
  exact h v' w' h2 h3 h5 h6
/-- at a step of a region that draws -/
theorem step_append_kind {ops : Array Oper} {o : Oper} {a : Act} {K : Act → World → Prop} {Q : Exit → Act → World → Prop} {E : Prop} (hgd : o.guard = none) (s x : Operand) (t : TypeId)
    (ho : o.op = .call { callee := .builtin .append, args := #[s, x], argTypes := #[t, t] })
    (base : Nat) (e : TypeId) (i : TypeInfo) (z : Value) (size bytes : Nat) (ht : P.underlying t = some (.slice e)) (hi : P.info? e = some i) (hz : i.zero = some z)
    (hsize : i.size = size) (hby : i.bytes = bytes) (hzs : z.cells.size = size) (hsz : 0 < size)
    (v : Value) (n : Nat) (xs : List Value) (hs : a.eval s = v) (hown : w.ownsRow base e size v n xs) (hkind : KindB w v) (hzk : ∀ u ∈ z.cells.toList, NoLimb u)
    (ad : Addr) (m c : Nat) (news : List Value) (hx : a.eval x = .slice (some ad) m c) (hl : news.length = m * size) (hnews : ∀ j u, news[j]? = some u → w.cell? (ad.add j) = some u) (h1 : ∀ u ∈ news, u.oneCell' = true) (hnk : ∀ u ∈ news, NoLimb u)
    (h63 : n + m ≤ maxLen) (hbytes : (n + m) * bytes ≤ 140737488355328) (hbase : base ≤ w.heap.size) (hm : 0 < m)
    (h : ∀ v' w', w'.ownsRow base e size v' (n + m) (xs ++ news) → w.grownBy w' v.ownBlock → (v'.ownBlock = v.ownBlock ∨ v'.ownBlock = some w.heap.size) → KindB w' v' → K (a.put o.dst v') w') :
    if Region.wanted o (yielded ops a.tmps) = true then Oper.wp P o a w K Q else E := by
  have hw : Region.wanted o (yielded ops a.tmps) = true := by simp [Region.wanted, hgd]
  rw [if_pos hw]
  exact wp_append_kind s x t ho base e i z size bytes ht hi hz hsize hby hzs hsz v n xs hs hown hkind hzk ad m c news hx hl hnews h1 hnk h63 hbytes hbase hm h
end
end Go.Proofs.YtgmopcncbpdniaaGreat

/- Keeps of package debt at any valid market. -/
set_option linter.unusedVariables false
set_option linter.unusedSimpArgs false
namespace Go.Proofs.YtgmopcncbpdniaaGreat
open Go.RowKit
attribute [local go_sem ↓] Go.wp_at_zero Go.wp_at_succ
theorem keep_maxD {n : Nat} {cash : Nat → Int} {d : Nat → Nat → Int} {ps : (Nat → Bool) → Nat → Rat} (hR : Rng n cash d) (hn : n ≤ 8) (hd : ∀ i j, 0 ≤ d i j) (hps : PsOK n cash d ps) (q : Nat) : ∀ j, j < n → MaxD (keepP n cash d (PS n cash d ps q) j).num.natAbs ∧ MaxD (keepP n cash d (PS n cash d ps q) j).den := fun j hj => by
  obtain ⟨x, hx⟩ := ps_rdy hps hR hd q
  have h := keep_small hR hn hd (rnd_all hps hR hd q).nc hx.sol j hj
  exact ⟨⟨Nat.lt_of_le_of_lt h.1 bd_keep⟩, ⟨Nat.lt_of_le_of_lt h.2 bd_keep⟩⟩
set_option maxHeartbeats 4000000 in
set_option maxRecDepth 100000 in
theorem keeps_any (vc vd : Value) (n : Nat) (cash : Nat → Int) (m : Nat → Nat) (d : Nat → Nat → Int) (ps : (Nat → Bool) → Nat → Rat) (w : World) (hc : Ints w vc n cash) (hm : Mat w vd n m d) (hD : Debts n m d) (hC : ∀ i, i < n → 0 ≤ cash i ∧ cash i ≤ 1000) (hd : ∀ i j, 0 ≤ d i j) (hps : PsOK n cash d ps) :
    Calls Tryz.prog 22 #[vc, vd] w fun e w' => ∃ q va vk ss, e = .returned (.tuple #[.slice va n vk, .int .i64 0]) ∧ Last n cash d ps q ∧ TxtsOf n (keepP n cash d (PS n cash d ps q)) ss ∧ Sl w' (.slice va n vk) n (fun j => .string (ss j)) ∧ Below w.heap.size w w' := by
  obtain ⟨i0, hi, hz0, hz1, hz2⟩ := info_parts infoR
  have HC := Lib.hid hc
  have HD := Lib.hid hm
  have HR := Lib.hid (rng_of hD hC hd)
  have h0 : 0 < n := hD.1
  have h8 : n ≤ 8 := hD.2.1
  have HDD := Lib.hid hd
  have HPS := Lib.hid hps
  have HDB := Lib.hid hD
  have HCB := Lib.hid hC
  obtain ⟨ca, cb, co, cc, rfl, hcs⟩ := hc
  obtain ⟨da, db, d_o, dc, ra, rb, ro, rc, rfl, hdm⟩ := hm
  clear hcs hdm hD hC hd hps
  go_enter Tryz.func22, Tryz.ntmps22
  go_upto_region 6 with (first
    | (go_at_call 38; (with_reducible refine (read_ok _ _ n cash m d _ HC.out HD.out HDB.out HCB.out).mono ?_); rintro e w1 ⟨b, vt, rfl, hm, hb1⟩; have HM := Lib.hid hm; have KW := Lib.hid hb1; clear hm hb1)
    | (go_at_call 39; (with_reducible refine (rounds_any b n cash d _ _ _ ps _ HM.out h0 h8 HR.out HDD.out HPS.out).mono ?_); rintro e w2 ⟨q, oa, ok, ora, orc, P, rfl, hq1, hq2, hq3, -, hp, hb2⟩; have HL : Hid (Last n cash d ps q) := Lib.hid ⟨hq1, hq2, hq3⟩; have HP := Lib.hid hp; have HM := Lib.hid (HM.out.mono hb2 (Nat.le_refl _)); have KW := Lib.hid (KW.out.trans (hb2.mono KW.out.size)); clear hp hb2 hq1 hq2 hq3))
  have c0 := HM.out.c0
  obtain ⟨wL, rfl⟩ : ∃ wL : World, wL = w2 := ⟨_, rfl⟩
  have VL0 := Lib.hid (Below.refl wL.heap.size wL)
  have BR0 : Hid (BRow wL wL.heap.size (.slice none 0 0) 0 (keepP n cash d (PS n cash d ps q)) 210000 []) := Lib.hid (BRow.nil _ _ _ _)
  go_wp2
  go_loopw [10, 11, 29] (fun v10 v11 v29 wr => ∃ k : Nat, k ≤ n ∧ v29 = .int .i64 (k : Nat) ∧ ∃ va vk xs, v10 = .slice va k vk ∧ Hid (BRow wr wL.heap.size (.slice va k vk) k (keepP n cash d (PS n cash d ps q)) 210000 xs) ∧ Hid (Below wL.heap.size wL wr)) (fun _ _ v29 _ => n - (intOf v29).toNat)
  case atStart => exact ⟨0, by omega, rfl, none, 0, [], rfl, BR0, VL0⟩
  case round =>
    clear VL0 BR0
    obtain ⟨k, hk, rfl, va, vk, xs, rfl, BR, VL⟩ := hrel
    by_cases h : k < n
    · have ixr := fun W => rowIx P n n k h W
      obtain ⟨sx, ax, nx, cx, ax2, nx2, cx2, PX, KX⟩ := HP.out.cell k h
      have PX := Lib.hid PX
      have KX := Lib.hid (KX trivial)
      have keepR : Hid (∀ w', Below wL.heap.size wL w' → w'.cell? ⟨P, k * 4, none⟩ = some (.bool sx) ∧ w'.cell? ⟨P, k * 4 + 1, none⟩ = some (.slice ax nx cx) ∧ w'.cell? ⟨P, k * 4 + 2, none⟩ = some (.bool false) ∧ w'.cell? ⟨P, k * 4 + 3, none⟩ = some (.slice ax2 nx2 cx2)) :=
        Lib.hid (fun w' hb => by obtain ⟨e0, e1, e2, e3, _⟩ := PX.out.below hb PX.out.lt; exact ⟨e0, e1, e2, e3⟩)
      have HCS : Hid (0 ≤ cash k ∧ cash k ≤ 100000) := Lib.hid (by have := HR.out.csh k h; omega)
      have HDS : Hid (∀ j, j < n → 0 ≤ d j k ∧ d j k ≤ 1000 ∧ 0 ≤ sumF (d j) n ∧ sumF (d j) n ≤ 100000) := Lib.hid (fun j hj => ⟨(HR.out.deb j k hj h).1, (HR.out.deb j k hj h).2, (HR.out.tot j hj).1, (HR.out.tot j hj).2⟩)
      have VL0 := VL
      have VL := Lib.hid VL.out.drew
      have BR := Lib.hid (BR.out.below (Below.refl wr.heap.size wr).drew)
      go_wp2
      go_region_held3 (fun w' => w'.cell? ⟨P, k * 4, none⟩ = some (.bool sx) ∧ w'.cell? ⟨P, k * 4 + 1, none⟩ = some (.slice ax nx cx) ∧ w'.cell? ⟨P, k * 4 + 2, none⟩ = some (.bool false) ∧ w'.cell? ⟨P, k * 4 + 3, none⟩ = some (.slice ax2 nx2 cx2))
        (first | (with_reducible exact keepR.out _ VL0.out) | (with_reducible exact keepR.out _ VL.out) | (with_reducible exact keepR.out _ VLA.out))
        (first
        | (go_at_call 51; (with_reducible refine (has_any b n k cash d _ _ _ _ (HM.out.mono VL.out (Nat.le_refl _)) h h8 HDS.out HCS.out P 0 n (PS n cash d ps q) 200 (HP.out.below VL.out (Nat.le_refl _)).rats (by omega) (by omega)).mono ?_); rintro e wa ⟨ra', rfl, hra, hba⟩; obtain ⟨sa, aa, na', ea, ba, ma, da, rfl, KH⟩ := hra.shape; clear hra; have BR := Lib.hid (BR.out.below hba); have VL := Lib.hid (VL.out.trans (hba.mono VL.out.size)))
        | (go_at_call 52; (with_reducible refine (rat_sub _ _ (hasQ n cash d (PS n cash d ps q) k) (PS n cash d ps q k) (512 * (200 + 1)) _ KH.out ((KX.out.mono VL.out (Nat.le_refl _)).le (by omega)) (by omega) (by omega)).mono ?_); rintro e wb ⟨rb', rfl, hrb, hbb⟩; obtain ⟨s6, a6, n6, c6, b6, m6, d6, rfl, KS⟩ := hrb.shape; clear hrb; have BR := Lib.hid (BR.out.below hbb); have VL := Lib.hid (VL.out.trans (hbb.mono VL.out.size)); have VLA := Lib.hid (VL.out.alloc VL.out.size (.cells #[.bool s6, .slice a6 n6 c6, .bool false, .slice b6 m6 d6] 92)); have BRA := Lib.hid (BR.out.alloc (.cells #[.bool s6, .slice a6 n6 c6, .bool false, .slice b6 m6 d6] 92)); have NEW := Lib.hid (own4_rd (own4_new wb wb.heap.size rfl (.bool s6) (.slice a6 n6 c6) (.bool false) (.slice b6 m6 d6) 92)); have KSA := Lib.hid (KS.out.mono (boxes1 wb (.cells #[.bool s6, .slice a6 n6 c6, .bool false, .slice b6 m6 d6] 92)) (Nat.le_refl _)); have HA3 := Lib.hid VLA.out.size)
        | ((refine step_append_kind (by rfl) _ _ _ (by rfl) wL.heap.size 92 i0 _ 4 64 Tryz.underlying73 hi hz0 hz1 hz2 rfl (by decide) (.slice va k vk) k xs (by rfl) BRA.out.own BRA.out.kind (noLimb_4 _ _ _ _ _ _ _ _) ⟨wb.heap.size, 0, none⟩ 1 1 [.bool s6, .slice a6 n6 c6, .bool false, .slice b6 m6 d6] (by rfl) (by rfl) (cells4' NEW.out) (one4' _ _ _ _ rfl rfl rfl rfl) (noLimb_4 _ _ _ _ _ _ _ _) (by unfold maxLen; omega) (by omega) HA3.out (by omega) ?_; intro v' w7 hown hgrow hblk hkind; obtain ⟨va', vk', rfl⟩ := own_shape hown; have BR7 := Lib.hid (BRA.out.push (KSA.out.le (show 2 * (512 * (200 + 1)) + 1 ≤ 210000 by omega)) (by rw [hasQ_eq]; rfl) hgrow hown hkind); have VLA := Lib.hid (VLA.out.grown hgrow HA3.out (fun kk e => (BRA.out.own.lt kk e).1)))))
      all_goals
        go_wp2
        go_roundw
        case rel => exact ⟨k + 1, by omega, by go_num, va', vk', _, rfl, BR7, VLA⟩
        case measure => simp [intOf]; omega
    · obtain rfl : k = n := by omega
      obtain ⟨g, cap, hge, hgb, RB⟩ := BR.out.row h0
      injection hge with e1 e2 e3
      subst e1 e3
      have RB := Lib.hid RB
      have KW := Lib.hid (KW.out.trans (VL.out.mono KW.out.size))
      go_wp2_with (go_at_call 40; go_loud ((with_reducible refine (nums_any g k vk _ 210000 _ RB.out.rats (by omega) (by omega) (keep_maxD HR.out h8 HDD.out HPS.out q)).mono ?_)); rintro e w3 ⟨va, vk, ss, rfl, htx, hv, hb3⟩; have HTX := Lib.hid htx; have HV := Lib.hid hv; have KW := Lib.hid (KW.out.trans (hb3.mono KW.out.size)); clear hv hb3 htx)
      go_ret2
      exact ⟨q, va, vk, ss, rfl, HL.out, HTX.out, Sl.of_own HV.out (fun i hi => strL_get ss k i hi), KW.out⟩
end Go.Proofs.YtgmopcncbpdniaaGreat

/- The reference's fractions as rational numbers: Lowest, Over, DivQ, Make. -/
set_option linter.unusedVariables false
set_option linter.unusedSimpArgs false
namespace Go.Proofs.YtgmopcncbpdniaaGreat
open Go.RowKit
attribute [local go_sem ↓] Go.wp_at_zero Go.wp_at_succ
/-- v is the fraction q, with at most m digits in each part -/
def QV (w : World) (v : Value) (q : Rat) (m : Nat) : Prop := ∃ p d : Int, QIs w v p d m ∧ (p : Rat) = q * (d : Rat)
theorem QIs.le {w : World} {v : Value} {p d : Int} {m k : Nat} (h : QIs w v p d m) (hk : m ≤ k) : QIs w v p d k := by
  obtain ⟨s1, u1, s2, u2, h0, h1, h2, h3⟩ := h
  exact ⟨s1, u1, s2, u2, h0, h1.le hk, h2.le hk, h3⟩
theorem QIs.pos {w : World} {v : Value} {p d : Int} {m : Nat} (h : QIs w v p d m) : 0 < d := by
  obtain ⟨s1, u1, s2, u2, h0, h1, h2, h3⟩ := h
  exact h3
theorem QV.mono {w w' : World} {v : Value} {q : Rat} {m B : Nat} (h : QV w v q m) (hb : Below B w w') (hB : w.heap.size ≤ B) : QV w' v q m := by
  obtain ⟨p, d, h1, h2⟩ := h
  exact ⟨p, d, h1.mono hb hB, h2⟩
theorem QV.le {w : World} {v : Value} {q : Rat} {m k : Nat} (h : QV w v q m) (hk : m ≤ k) : QV w v q k := by
  obtain ⟨p, d, h1, h2⟩ := h
  exact ⟨p, d, h1.le hk, h2⟩
theorem QV.of {w : World} {v : Value} {q : Rat} {m : Nat} (h : QIs w v q.num ((q.den : Nat) : Int) m) : QV w v q m :=
  ⟨_, _, h, (mul_den_num q).symm⟩
theorem QV.shape {w : World} {v : Value} {q : Rat} {m : Nat} (h : QV w v q m) : ∃ s a n c t b l e, v = .agg #[.bool s, .slice a n c, .bool t, .slice b l e] ∧ Hid (QV w (.agg #[.bool s, .slice a n c, .bool t, .slice b l e]) q m) := by
  obtain ⟨p, d, h1, h2⟩ := h
  obtain ⟨s, a, n, c, t, b, l, e, rfl, -, -, -⟩ := h1.shape
  exact ⟨s, a, n, c, t, b, l, e, rfl, p, d, h1, h2⟩
theorem rat_ne {d : Int} (h : 0 < d) : (d : Rat) ≠ 0 := fun e => by
  have : ((d : Int) : Rat) = ((0 : Int) : Rat) := e
  have := Rat.intCast_inj.1 this
  omega
theorem rat_pos {d : Int} (h : 0 < d) : (0 : Rat) < (d : Rat) := Rat.intCast_pos.2 h
theorem mul_pos_iff {a d : Rat} (h : 0 < d) : 0 < a * d ↔ 0 < a := by
  constructor
  · intro h1
    refine Rat.not_le.1 (fun h2 => ?_)
    have h3 := Rat.mul_nonneg (show 0 ≤ -a by grind) (Rat.le_of_lt h)
    have h4 : -a * d = -(a * d) := by grind
    rw [h4] at h3
    grind
  · exact fun h1 => Rat.mul_pos h1 h
/-- how the reference compares -/
def cmpR (a b : Rat) : Int := if a < b then -1 else if a = b then 0 else 1
theorem sgZ_cmp {p q : Int} {d e : Int} {a b : Rat} (hd : 0 < d) (he : 0 < e) (hp : (p : Rat) = a * (d : Rat)) (hq : (q : Rat) = b * (e : Rat)) : sgZ (p * e - q * d) = cmpR a b := by
  have hde := Rat.mul_pos (rat_pos hd) (rat_pos he)
  have e1 : ((p * e - q * d : Int) : Rat) = (a - b) * ((d : Rat) * (e : Rat)) := by
    rw [Rat.intCast_sub, Rat.intCast_mul, Rat.intCast_mul, hp, hq]; grind
  generalize p * e - q * d = z at e1
  have h1 : 0 < z ↔ b < a := by
    have h2 := mul_pos_iff (a := a - b) hde
    rw [← e1, Rat.intCast_pos] at h2
    rw [h2]; constructor <;> intro h <;> grind
  have h2 : z < 0 ↔ a < b := by
    have h2 := mul_pos_iff (a := b - a) hde
    have e2 : (b - a) * ((d : Rat) * (e : Rat)) = ((-z : Int) : Rat) := by rw [Rat.intCast_neg, e1]; grind
    rw [e2, Rat.intCast_pos] at h2
    rw [show z < 0 ↔ 0 < -z by omega, h2]; constructor <;> intro h <;> grind
  unfold sgZ cmpR
  by_cases c1 : z < 0
  · rw [if_pos c1, if_pos (h2.1 c1)]
  · rw [if_neg c1, if_neg (fun h => c1 (h2.2 h))]
    by_cases c2 : z = 0
    · have c3 : a = b := by
        have n1 : ¬ a < b := fun h => c1 (h2.2 h)
        have n2 : ¬ b < a := fun h => by have := h1.2 h; omega
        have := Rat.not_lt.1 n1
        have := Rat.not_lt.1 n2
        grind
      rw [if_pos c2, if_pos c3]
    · have c3 : ¬ a = b := fun h => by
        have : b < a := h1.1 (by omega)
        rw [h] at this; exact absurd this Rat.lt_irrefl
      rw [if_neg c2, if_neg c3]
theorem sgZ_cmp0 {p d : Int} {a : Rat} (hd : 0 < d) (hp : (p : Rat) = a * (d : Rat)) : sgZ p = cmpR a 0 := by
  have h := sgZ_cmp (p := p) (q := 0) (d := d) (e := 1) (a := a) (b := 0) hd (by omega) hp (by simp)
  simpa using h
theorem qv_whole (v : Int) (w : World) (h1 : -9223372036854775808 ≤ v) (h2 : v < 9223372036854775808) :
    Calls Tryz.prog 16 #[.int .i64 v] w fun ex w' => ∃ r, ex = .returned r ∧ QV w' r (v : Rat) 5 ∧ Below w.heap.size w w' := by
  refine (whole_any v h1 h2 w).mono ?_
  rintro e w' ⟨r, rfl, hr, hb⟩
  exact ⟨r, rfl, ⟨v, 1, hr, by simp⟩, hb⟩
theorem qv_mul (x y : Value) (a b : Rat) (k : Nat) (w : World) (hx : QV w x a k) (hy : QV w y b k) (hk : k ≤ 274877906940) :
    Calls Tryz.prog 48 #[x, y] w fun ex w' => ∃ r, ex = .returned r ∧ QV w' r (a * b) (2 * k) ∧ Below w.heap.size w w' := by
  obtain ⟨p, d, h1, e1⟩ := hx
  obtain ⟨q, e, h2, e2⟩ := hy
  refine (qmul_any x y p d q e k w h1 h2 hk).mono ?_
  rintro ex w' ⟨r, rfl, hr, hb⟩
  exact ⟨r, rfl, ⟨_, _, hr, by rw [Rat.intCast_mul, Rat.intCast_mul, e1, e2]; grind⟩, hb⟩
theorem qv_add (x y : Value) (a b : Rat) (k : Nat) (w : World) (hx : QV w x a k) (hy : QV w y b k) (hk : k ≤ 274877906940) :
    Calls Tryz.prog 18 #[x, y] w fun ex w' => ∃ r, ex = .returned r ∧ QV w' r (a + b) (2 * k + 1) ∧ Below w.heap.size w w' := by
  obtain ⟨p, d, h1, e1⟩ := hx
  obtain ⟨q, e, h2, e2⟩ := hy
  refine (qadd_any x y p d q e k w h1 h2 hk).mono ?_
  rintro ex w' ⟨r, rfl, hr, hb⟩
  exact ⟨r, rfl, ⟨_, _, hr, by rw [Rat.intCast_add, Rat.intCast_mul, Rat.intCast_mul, Rat.intCast_mul, e1, e2]; grind⟩, hb⟩
theorem qv_sub (x y : Value) (a b : Rat) (k : Nat) (w : World) (hx : QV w x a k) (hy : QV w y b k) (hk : k ≤ 274877906940) :
    Calls Tryz.prog 28 #[x, y] w fun ex w' => ∃ r, ex = .returned r ∧ QV w' r (a - b) (2 * k + 1) ∧ Below w.heap.size w w' := by
  obtain ⟨p, d, h1, e1⟩ := hx
  obtain ⟨q, e, h2, e2⟩ := hy
  refine (qsub_any x y p d q e k w h1 h2 hk).mono ?_
  rintro ex w' ⟨r, rfl, hr, hb⟩
  exact ⟨r, rfl, ⟨_, _, hr, by rw [Rat.intCast_sub, Rat.intCast_mul, Rat.intCast_mul, Rat.intCast_mul, e1, e2]; grind⟩, hb⟩
theorem qv_cmp (x y : Value) (a b : Rat) (k : Nat) (w : World) (hx : QV w x a k) (hy : QV w y b k) (hk : k ≤ 274877906940) :
    Calls Tryz.prog 14 #[x, y] w fun ex w' => ex = .returned (.int .i64 (cmpR a b)) ∧ Below w.heap.size w w' := by
  obtain ⟨p, d, h1, e1⟩ := hx
  obtain ⟨q, e, h2, e2⟩ := hy
  have g1 := h1.pos
  have g2 := h2.pos
  refine (qcmp_any x y p d q e k w h1 h2 hk).mono ?_
  rintro ex w' ⟨rfl, hb⟩
  exact ⟨by rw [sgZ_cmp g1 g2 e1 e2], hb⟩
/-- Sign of the numerator -/
theorem qv_sign {s t : Bool} {u u2 : Value} (a : Rat) (k : Nat) (w : World) (h : QV w (.agg #[.bool s, u, .bool t, u2]) a k) :
    Calls Tryz.prog 29 #[.agg #[.bool s, u]] w fun ex w' => ex = .returned (.int .i64 (cmpR a 0)) ∧ Below w.heap.size w w' := by
  obtain ⟨p, d, h1, e1⟩ := h
  obtain ⟨s1, u1, s2, u2', h0, g1, g2, g3⟩ := h1
  injection h0 with h0
  injection h0 with h0
  simp only [List.cons.injEq, and_true] at h0
  obtain ⟨h0, h00, -, -⟩ := h0
  injection h0 with h0
  subst h0 h00
  refine (bsign_any _ p k w g1).mono ?_
  rintro ex w' ⟨rfl, hb⟩
  exact ⟨by rw [sgZ_cmp0 g3 e1], hb⟩
set_option maxHeartbeats 4000000 in
theorem qlow_any (x : Value) (p d : Int) (k : Nat) (w : World) (hx : QIs w x p d k) (hk : k ≤ 274877906940) :
    Calls Tryz.prog 50 #[x] w fun ex w' => ∃ r, ex = .returned r ∧ QIs w' r (p / ((Int.gcd p d : Nat) : Int)) (d / ((Int.gcd p d : Nat) : Int)) k ∧ Below w.heap.size w w' := by
  obtain ⟨s1, a1, n1, c1, t1, a2, n2, c2, rfl, HN, HD, hd⟩ := hx.shape
  have bn := HN.out.digits
  have bd := HD.out.digits
  clear hx
  obtain ⟨G, hG⟩ : ∃ G, G = Int.gcd p d := ⟨_, rfl⟩
  have hGp : 0 < G := by rw [hG]; exact Int.gcd_pos_of_ne_zero_right p (by omega)
  have hGn : ((G : Nat) : Int) ∣ p := by rw [hG]; exact Int.gcd_dvd_left p d
  have hGd : ((G : Nat) : Int) ∣ d := by rw [hG]; exact Int.gcd_dvd_right p d
  have m1 : p % ((G : Nat) : Int) = 0 := Int.emod_eq_zero_of_dvd hGn
  have l1 : nd (p / ((G : Nat) : Int)).natAbs ≤ k := Nat.le_trans (nd_mono (by
    rw [Int.natAbs_ediv_of_dvd hGn]; exact Nat.div_le_self _ _)) bn
  have l2 : nd (d / ((G : Nat) : Int)).natAbs ≤ k := Nat.le_trans (nd_mono (by
    rw [Int.natAbs_ediv_of_dvd hGd]; exact Nat.div_le_self _ _)) bd
  have dp : 0 < d / ((G : Nat) : Int) := by
    obtain ⟨c, hc⟩ := hGd
    rw [hc, Int.mul_ediv_cancel_left _ (by omega)]
    refine Int.lt_of_not_ge (fun h => ?_)
    have : ((G : Nat) : Int) * c ≤ 0 := Int.mul_nonpos_of_nonneg_of_nonpos (by omega) h
    omega
  rw [← hG]
  have HG0 := Lib.hid hG
  have HL := Lib.hid (And.intro l1 l2)
  have HM := Lib.hid (Or.inr m1 : 0 ≤ p ∨ p % ((G : Nat) : Int) = 0)
  have HDP := Lib.hid dp
  have HD0 := Lib.hid hd
  have HGP : Hid ((0 : Int) < ((G : Nat) : Int)) := Lib.hid (by omega)
  clear hG hGn hGd m1 l1 l2 dp bn bd hd hGp
  have KW := Lib.hid (boxes2 w (Obj.cells #[.bool s1, .slice a1 n1 c1, .bool t1, .slice a2 n2 c2] 40) (Obj.cells #[.bool false, .slice none 0 0, .bool false, .slice none 0 0] 40))
  have HN := Lib.hid (HN.out.mono KW.out (Nat.le_refl _))
  have HD := Lib.hid (HD.out.mono KW.out (Nat.le_refl _))
  have P1 := Lib.hid ((own4_new w w.heap.size rfl (.bool s1) (.slice a1 n1 c1) (.bool t1) (.slice a2 n2 c2) 40).alloc (Obj.cells #[.bool false, .slice none 0 0, .bool false, .slice none 0 0] 40))
  have P2 := Lib.hid (own4_new (w.alloc (Obj.cells #[.bool s1, .slice a1 n1 c1, .bool t1, .slice a2 n2 c2] 40)) (w.heap.size + 1) (by simp) (.bool false) (.slice none 0 0) (.bool false) (.slice none 0 0) 40)
  obtain ⟨x10, x11, x12, x13, _, xl1⟩ := P1.out
  go_enter Tryz.func50, Tryz.ntmps50
  go_wp2_with fail
  refine (zgcd_any _ _ p d k _ HN.out HD.out (by omega)).mono ?_
  rintro e w1 ⟨g, rfl, hg, hb1⟩
  obtain ⟨sg, ag, ng, cg, rfl, HG⟩ := hg.shape
  rw [← HG0.out] at HG
  have hba := hb1.trans ((Below.refl w1.heap.size w1).alloc (Nat.le_refl _) (Obj.cells #[.bool sg, .slice ag ng cg] 38) |>.mono hb1.size)
  have KW := Lib.hid (KW.out.trans (hba.mono KW.out.size))
  have HN := Lib.hid (HN.out.mono hba (Nat.le_refl _))
  have HD := Lib.hid (HD.out.mono hba (Nat.le_refl _))
  have P1 := Lib.hid (P1.out.below hba P1.out.lt)
  have P2 := Lib.hid (P2.out.below hba P2.out.lt)
  have GB := Lib.hid (own2_new w1 w1.heap.size rfl (.bool sg) (.slice ag ng cg) 38)
  have HG := Lib.hid (HG.out.mono (boxes1 w1 (Obj.cells #[.bool sg, .slice ag ng cg] 38)) (Nat.le_refl _))
  clear hg hb1 hba x10 x11 x12 x13 xl1
  obtain ⟨x10, x11, x12, x13, _, xl1⟩ := P1.out
  obtain ⟨y0, y1, _, yl⟩ := GB.out
  go_wp2_with fail
  refine (zdivmod_any _ _ p ((G : Nat) : Int) k k _ HN.out HG.out HGP.out HM.out (by omega) (by omega)).mono ?_
  rintro e w2 ⟨u2, v2, rfl, hu, hv, hb2⟩
  obtain ⟨s3, a3, n3, c3, rfl, HU⟩ := (hu.tight HL.out.1).shape
  obtain ⟨s4, a4, n4, c4, rfl, -⟩ := hv.shape
  have hbb := boxes2 w2 (Obj.cells #[.bool s3, .slice a3 n3 c3] 38) (Obj.cells #[.bool s4, .slice a4 n4 c4] 38)
  have hba := hb2.trans (hbb.mono hb2.size)
  have KW := Lib.hid (KW.out.trans (hba.mono KW.out.size))
  have HD := Lib.hid (HD.out.mono hba (Nat.le_refl _))
  have P1 := Lib.hid (P1.out.below hba P1.out.lt)
  have P2 := Lib.hid (P2.out.below hba P2.out.lt)
  have GB := Lib.hid (GB.out.below hba GB.out.lt)
  have HG := Lib.hid (HG.out.mono hba (Nat.le_refl _))
  have HU := Lib.hid (HU.out.mono hbb (Nat.le_refl _))
  have NB := Lib.hid ((own2_new w2 w2.heap.size rfl (.bool s3) (.slice a3 n3 c3) 38).alloc (Obj.cells #[.bool s4, .slice a4 n4 c4] 38))
  clear hu hv hb2 hbb hba x10 x11 x12 x13 xl1 y0 y1 yl
  obtain ⟨x10, x11, x12, x13, _, xl1⟩ := P1.out
  obtain ⟨y0, y1, _, yl⟩ := GB.out
  go_wp2_with fail
  refine (zdivmod_any _ _ d ((G : Nat) : Int) k k _ HD.out HG.out HGP.out (.inl (by have := HD0.out; omega)) (by omega) (by omega)).mono ?_
  rintro e w3 ⟨u3, v3, rfl, hu, hv, hb3⟩
  obtain ⟨s5, a5, n5, c5, rfl, HV⟩ := (hu.tight HL.out.2).shape
  obtain ⟨s6, a6, n6, c6, rfl, -⟩ := hv.shape
  have hbb := boxes2 w3 (Obj.cells #[.bool s5, .slice a5 n5 c5] 38) (Obj.cells #[.bool s6, .slice a6 n6 c6] 38)
  have hba := hb3.trans (hbb.mono hb3.size)
  have KW := Lib.hid (KW.out.trans (hba.mono KW.out.size))
  have P2 := Lib.hid (P2.out.below hba P2.out.lt)
  have HU := Lib.hid (HU.out.mono hba (Nat.le_refl _))
  have NB := Lib.hid (NB.out.below hba NB.out.lt)
  have HV := Lib.hid (HV.out.mono hbb (Nat.le_refl _))
  have MB := Lib.hid ((own2_new w3 w3.heap.size rfl (.bool s5) (.slice a5 n5 c5) 38).alloc (Obj.cells #[.bool s6, .slice a6 n6 c6] 38))
  clear hu hv hb3 hbb hba x10 x11 x12 x13 xl1 y0 y1 yl HG GB HD P1
  obtain ⟨x0, x1, x2, x3, xf, xl⟩ := P2.out
  obtain ⟨y0, y1, _, yl⟩ := NB.out
  obtain ⟨z0, z1, _, zl⟩ := MB.out
  go_wp2_with fail
  refine bodyPost_ret (v := .agg #[.bool s3, .slice a3 n3 c3, .bool s5, .slice a5 n5 c5]) (by simp [results, Tryz.results50, go_sem, x0, x1, x2, x3, xf, xl]) rfl ?_
  exact ⟨_, rfl, ⟨_, _, _, _, rfl, HU.out.store4 P2.out _ _ _ _, HV.out.store4 P2.out _ _ _ _, HDP.out⟩, below_set4q KW.out (by omega) _ _ _ _⟩
end Go.Proofs.YtgmopcncbpdniaaGreat
