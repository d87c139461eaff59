/- Num of Rat at a whole number of one digit; Nums of package linear at the payments of the example. -/
import Derived.Test.YtgmopcncbpdniaaQLive2
import Derived.Test.YtgmopcncbpdniaaQRead
set_option linter.unusedVariables false
set_option linter.unusedSimpArgs false
namespace Go.Proofs.Ytgmopcncbpdniaa
open Go.RowKit
attribute [local go_sem ↓] Go.wp_at_zero Go.wp_at_succ

theorem own_below {w w' : World} {base B e size n : Nat} {v : Value} {xs : List Value} (h : w.ownsRow base e size v n xs) (hb : Below B w w') (hB : w.heap.size ≤ B := by exact Nat.le_refl _) : w'.ownsRow base e size v n xs :=
  h.kept (row := none) ⟨hb.os, hb.tape, hb.output, hb.size, fun k hk _ => hb.block k (Nat.lt_of_lt_of_le hk hB)⟩ (by
    rcases hh : v.ownBlock with _ | g
    · exact .inl rfl
    · exact .inr (by intro e; cases e))
/-- the cell of a row of one that was just made -/
theorem new1 (w : World) (u : Value) (t : TypeId) : ∀ j x, [u][j]? = some x → (w.alloc (.cells #[u] t)).cell? ((⟨w.heap.size, 0, none⟩ : Addr).add j) = some x := fun j x hj => by
  match j, hj with
  | 0, hj => simp at hj; subst hj; simp [go_sem, Addr.add]
theorem one1 (u : Value) (h : u.oneCell' = true) : ∀ x ∈ [u], x.oneCell' = true := fun x hx => by simp at hx; subst hx; exact h

/-- the text of a digit -/
def digS (N : Nat) : ByteArray := ⟨#[48 + UInt8.ofNat N]⟩
theorem digS_size (N : Nat) : (digS N).size = 1 := rfl

set_option maxHeartbeats 1000000 in
set_option maxRecDepth 100000 in
theorem rat_num_small (x : Value) (q : Rat) (k N : Nat) (w : World) (hx : RatIs w x q k) (hq : q.num = (N : Int)) (hd : q.den = 1) (h0 : 0 < N) (h9 : N < 10) :
    Calls Try.prog 54 #[x] w fun e w' => e = .returned (.tuple #[.string (digS N), .int .i64 0]) ∧ Below w.heap.size w w' := by
  have hx0 := hx
  obtain ⟨u, d, rfl, ⟨a1, b1, o1, c1, rfl, i1⟩, ⟨a2, b2, o2, c2, rfl, i2⟩, h3, h4⟩ := hx
  have e1 : q.num.natAbs = N := by omega
  have e2 : decide (q.num < 0) = false := by rw [hq]; simp
  rw [e1, e2, hd] at hx0
  rw [e1] at i1 h3
  rw [e1, e2, hd]
  have hM : Mag w (.slice a1 (nl N) c1) N := ⟨a1, b1, o1, c1, rfl, i1⟩
  have KW := Lib.hid (boxes1 w (.cells #[.bool false, .slice a1 (nl N) c1, .bool false, .slice a2 (nl 1) c2] 88))
  have HM := Lib.hid (hM.mono KW.out (Nat.le_refl _))
  have HX := Lib.hid (hx0.mono KW.out (Nat.le_refl _))
  have PO := Lib.hid (own4_new w _ rfl (.bool false) (.slice a1 (nl N) c1) (.bool false) (.slice a2 (nl 1) c2) 88)
  have hsz := digS_size N
  have HD : Hid (decide (q.den = 1) = true) := Lib.hid (by simpa using hd)
  clear hx0 hM i1 i2 h3 h4 hq hd e1 e2
  go_enter Try.func54, Try.ntmps54
  go_wp2_with (first
    | (go_at_call 68; (with_reducible refine (text_small _ N _ HM.out h0 h9).mono ?_); rintro e w1 ⟨rfl, hb1⟩; rw [show (⟨#[48 + UInt8.ofNat N]⟩ : ByteArray) = digS N from rfl]; have KW := Lib.hid (KW.out.trans (hb1.mono KW.out.size)); have HX := Lib.hid (HX.out.mono hb1 (Nat.le_refl _)); have PO := Lib.hid (PO.out.below hb1 PO.out.lt); clear hb1; obtain ⟨x0, x1, x2, x3, _, _⟩ := PO.out)
    | (go_at_call 69; (with_reducible refine (rat_integer _ q k _ true HD.out HX.out).mono ?_); rintro e w2 ⟨rfl, hb2⟩; have KW := Lib.hid (KW.out.trans (hb2.mono KW.out.size))))
  go_ret2
  exact ⟨rfl, KW.out⟩

theorem infoN : (Try.prog.info? 57).map (fun i => (i.zero, i.size, i.bytes)) = some (some (.string ByteArray.empty), 1, 16) := by kernel_rfl

/-- the texts of digits, as a list of cells -/
def strs (N : Nat → Nat) (n : Nat) : List Value := (List.range n).map (fun i => .string (digS (N i)))
theorem strs_get (N : Nat → Nat) (n i : Nat) (h : i < n) : (strs N n)[i]? = some (.string (digS (N i))) := by simp [strs, h]
theorem strs_succ (N : Nat → Nat) (n : Nat) : strs N n ++ [.string (digS (N n))] = strs N (n + 1) := by simp [strs, List.range_succ]

set_option maxHeartbeats 2000000 in
set_option maxRecDepth 100000 in
theorem nums_small (pb n pc : Nat) (q : Nat → Rat) (N : Nat → Nat) (K : Nat) (w : World) (hp : IsRats w pb 0 n q K) (hn : n ≤ 8) (hN : ∀ j, j < n → (q j).num = (N j : Int) ∧ (q j).den = 1 ∧ 0 < N j ∧ N j < 10) :
    Calls Try.prog 41 #[.slice (some ⟨pb, 0, none⟩) n pc] w fun e w' => ∃ v, e = .returned (.tuple #[v, .int .i64 0]) ∧ Sl w' v n (fun j => .string (digS (N j))) ∧ Below w.heap.size w w' := by
  have HP := Lib.hid hp
  have HN := Lib.hid hN
  obtain ⟨i0, hi, hz0, hz1, hz2⟩ := info_parts infoN
  have KW0 := Lib.hid (Below.refl w.heap.size w)
  clear hp hN
  go_enter Try.func41, Try.ntmps41
  go_wp2
  go_loopw [4, 11] (fun v4 v11 wr => ∃ k : Nat, k ≤ n ∧ v11 = .int .i64 (k : Nat) ∧ ∃ va vk, v4 = .slice va k vk ∧ Hid (wr.ownsRow w.heap.size 57 1 (.slice va k vk) k (strs N k)) ∧ Hid (Below w.heap.size w wr)) (fun _ v11 _ => n - (intOf v11).toNat)
  case atStart => exact ⟨0, by omega, rfl, none, 0, rfl, Lib.hid (World.ownsRow_nil _ _ _ _), KW0⟩
  case round =>
    clear KW0
    obtain ⟨k, hk, rfl, va, vk, rfl, OW, KW⟩ := hrel
    by_cases h : k < n
    · obtain ⟨s, a, m, c, a2, m2, c2, PP, KP⟩ := (HP.out.mono KW.out (Nat.le_refl _)) k h
      rw [Nat.zero_add] at PP
      obtain ⟨x0, x1, x2, x3, xl⟩ := PP
      have ixr := fun W => rowIx pb n pc k h W
      have HX := Lib.hid (KP.mono (boxes1 wr (.cells #[.bool s, .slice a m c, .bool false, .slice a2 m2 c2] 88)) (Nat.le_refl _))
      have KW1 := Lib.hid (KW.out.alloc KW.out.size (.cells #[.bool s, .slice a m c, .bool false, .slice a2 m2 c2] 88))
      have OW1 := Lib.hid (OW.out.alloc (.cells #[.bool s, .slice a m c, .bool false, .slice a2 m2 c2] 88))
      have HNk := Lib.hid (HN.out k h)
      clear KP
      go_wp2_with (first
        | (go_at_call 54; (with_reducible refine (rat_num_small _ (q k) K (N k) _ HX.out HNk.out.1 HNk.out.2.1 HNk.out.2.2.1 HNk.out.2.2.2).mono ?_); rintro e w2 ⟨rfl, hb2⟩; have KW2 := Lib.hid (KW1.out.trans (hb2.mono KW1.out.size)); have OW2 := Lib.hid (own_below OW1.out hb2); have HB2 := Lib.hid (Nat.le_trans KW1.out.size hb2.size); clear hb2)
        | (at_builtin; refine wpList_append_own _ rfl (.tmp 23) (.tmp 25) 50 rfl w.heap.size 57 i0 (.string ByteArray.empty) 1 16 Try.underlying50 hi hz0 hz1 hz2 rfl (by decide) (.slice va k vk) k (strs N k) rfl (OW2.out.alloc _) ⟨w2.heap.size, 0, none⟩ 1 1 [.string (digS (N k))] rfl rfl (new1 _ _ _) (one1 _ rfl) (by unfold maxLen; omega) (by omega) (by have := HB2.out; simp; omega) ?_; intro v' w3 hown hgrow _; have hbk := (OW2.out.alloc (.cells #[.string (digS (N k))] 57)).lt; have KW3 := Lib.hid ((KW2.out.alloc KW2.out.size _).grown hgrow (by have := HB2.out; simp; omega) (fun kk e => (hbk kk e).1)); rw [strs_succ] at hown; obtain ⟨va', vk', rfl⟩ := own_shape hown; have OW3 := Lib.hid hown; clear hown hgrow hbk))
      go_roundw
      case rel => exact ⟨k + 1, by omega, by go_num, va', vk', rfl, OW3, KW3⟩
      case measure => simp [intOf]; omega
    · obtain rfl : k = n := by omega
      go_wp2
      go_ret2
      exact ⟨_, rfl, Sl.of_own OW.out (fun i hi => strs_get N k i hi), KW.out⟩


end Go.Proofs.Ytgmopcncbpdniaa

/- Clear and Fails of package debt at the document's example. -/
set_option linter.unusedVariables false
set_option linter.unusedSimpArgs false
namespace Go.Proofs.Ytgmopcncbpdniaa
open Go.RowKit
attribute [local go_sem ↓] Go.wp_at_zero Go.wp_at_succ

theorem dL_debts : Debts 2 (fun _ => 2) dL := ⟨by omega, by omega, fun i hi => ⟨rfl, by unfold dL; rw [if_neg (by omega), if_neg (by omega)], fun j _ => ⟨(dL_range i j hi).1, (dL_range i j hi).2.1⟩⟩⟩
theorem cashL_range : ∀ i, i < 2 → 0 ≤ cashL i ∧ cashL i ≤ 1000 := fun i _ => by unfold cashL; split <;> omega
/-- the digits of the payments 3, 2 -/
def payN (j : Nat) : Nat := if j = 0 then 3 else 2
theorem payN_ok : ∀ j, j < 2 → (twoQ 3 2 j).num = (payN j : Int) ∧ (twoQ 3 2 j).den = 1 ∧ 0 < payN j ∧ payN j < 10 := fun j hj => by
  match j, hj with
  | 0, _ => decide +kernel
  | 1, _ => decide +kernel

set_option maxHeartbeats 1000000 in
theorem clear_live (vc vd : Value) (w : World) (hc : Ints w vc 2 cashL) (hd : Mat w vd 2 (fun _ => 2) dL) :
    Calls Try.prog 24 #[vc, vd] w fun e w' => ∃ v, e = .returned (.tuple #[v, .int .i64 0]) ∧ Sl w' v 2 (fun j => .string (digS (payN j))) ∧ Below w.heap.size w w' := by
  have HC := Lib.hid hc
  have HD := Lib.hid hd
  obtain ⟨ca, cb, co, cc, rfl, hcs⟩ := hc
  obtain ⟨da, db, d_o, dc, ra, rb, ro, rc, rfl, hdm⟩ := hd
  clear hcs hdm
  go_enter Try.func24, Try.ntmps24
  go_wp2_with (first
    | (go_at_call 39; (with_reducible refine (read_ok _ _ 2 cashL (fun _ => 2) dL _ HC.out HD.out dL_debts cashL_range).mono ?_); rintro e w1 ⟨b, vt, rfl, hm, hb1⟩; have HM := Lib.hid hm; have KW := Lib.hid hb1; clear hm hb1)
    | (go_at_call 40; (with_reducible refine (rounds_live _ _ _ _ _ HM.out).mono ?_); rintro e w2 ⟨o, oc, n, nc, g, rfl, ho, hn, hp, hb2, hol, hnl, _, _⟩; have HP := Lib.hid hp; have KW := Lib.hid (KW.out.trans (hb2.mono KW.out.size)); clear ho hn hp hb2 hol hnl)
    | (go_at_call 41; (with_reducible refine (nums_small _ 2 2 _ payN 5120 _ HP.out (by omega) payN_ok).mono ?_); rintro e w3 ⟨v, rfl, hv, hb3⟩; have HV := Lib.hid hv; have KW := Lib.hid (KW.out.trans (hb3.mono KW.out.size)); clear hv hb3))
  go_ret2
  exact ⟨v, rfl, HV.out, KW.out⟩

set_option maxHeartbeats 1000000 in
theorem fails_live (vc vd : Value) (w : World) (hc : Ints w vc 2 cashL) (hd : Mat w vd 2 (fun _ => 2) dL) :
    Calls Try.prog 25 #[vc, vd] w fun e w' => ∃ o oc n nc, e = .returned (.tuple #[.slice (some ⟨o, 0, none⟩) 1 oc, .int .i64 0]) ∧ w'.cell? ⟨o, 0, none⟩ = some (.slice (some ⟨n, 0, none⟩) 1 nc) ∧ w'.cell? ⟨n, 0, none⟩ = some (.int .i64 0) ∧
      o < w'.heap.size ∧ n < w'.heap.size ∧ 1 ≤ oc ∧ 1 ≤ nc ∧ Below w.heap.size w w' := by
  have HC := Lib.hid hc
  have HD := Lib.hid hd
  obtain ⟨ca, cb, co, cc, rfl, hcs⟩ := hc
  obtain ⟨da, db, d_o, dc, ra, rb, ro, rc, rfl, hdm⟩ := hd
  clear hcs hdm
  go_enter Try.func25, Try.ntmps25
  go_wp2_with (first
    | (go_at_call 39; (with_reducible refine (read_ok _ _ 2 cashL (fun _ => 2) dL _ HC.out HD.out dL_debts cashL_range).mono ?_); rintro e w1 ⟨b, vt, rfl, hm, hb1⟩; have HM := Lib.hid hm; have KW := Lib.hid hb1; clear hm hb1)
    | (go_at_call 40; (with_reducible refine (rounds_live _ _ _ _ _ HM.out).mono ?_); rintro e w2 ⟨o, oc, n, nc, g, rfl, ho, hn, hp, hb2, hol, hnl, ho1, hn1⟩; have HO := Lib.hid ho; have HN := Lib.hid hn; have HOL := Lib.hid hol; have HNL := Lib.hid hnl; have HO1 := Lib.hid ho1; have HN1 := Lib.hid hn1; clear ho1 hn1; have KW := Lib.hid (KW.out.trans (hb2.mono KW.out.size)); clear ho hn hp hb2 hol hnl))
  go_ret2
  exact ⟨o, oc, n, nc, rfl, HO.out, HN.out, HOL.out, HNL.out, HO1.out, HN1.out, KW.out⟩

end Go.Proofs.Ytgmopcncbpdniaa
