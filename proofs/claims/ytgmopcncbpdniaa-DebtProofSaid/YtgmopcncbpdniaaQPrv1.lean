/- debt.Proves: its refusals. -/
import Derived.Test.YtgmopcncbpdniaaQFun2
import Derived.Test.YtgmopcncbpdniaaQCancel2
set_option linter.unusedVariables false
set_option linter.unusedSimpArgs false
namespace Go.Proofs.Ytgmopcncbpdniaa
open Go.RowKit

set_option maxHeartbeats 2000000 in
theorem dProves_arg (vd vr vp : Value) (n q np : Nat) (m mr : Nat → Nat) (d r : Nat → Nat → Int) (p : Nat → Int) (w : World) (hd : Mat w vd n m d) (hr : Mat w vr q mr r) (hp : Ints w vp np p)
    (hn : n ≤ 1048576) (hm : ∀ i, i < n → m i ≤ 1048576) (hq : q ≤ 1048576) (hmr : ∀ i, i < q → mr i ≤ 1048576) (hnp : np ≤ 1048576) (hD : ¬ Debts n m d) :
    Calls Try.prog 19 #[vd, vr, vp] w fun e w' => e = .returned (.tuple #[.bool false, .int .i64 1]) ∧ Below w.heap.size w w' := by
  have KW := Lib.hid ((Below.refl w.heap.size w).alloc (Nat.le_refl _) (.cells #[.int .i64 (n : Nat)] 3))
  have HD := Lib.hid (hd.mono ((Below.refl w.heap.size w).alloc (Nat.le_refl _) (.cells #[.int .i64 (n : Nat)] 3)) (Nat.le_refl _))
  have HM := Lib.hid hm
  have HND := Lib.hid hD
  obtain ⟨a1, b1, o1, c1, ra1, rb1, ro1, rc1, rfl, s1⟩ := hd
  clear hm hD s1 hmr hr hp
  go_enter Try.func19, Try.ntmps19
  go_wp2_with (go_at_call 20; (with_reducible refine (square_any _ n m d false ⟨fun e => Bool.noConfusion e, fun h => absurd h HND.out⟩ _ HD.out hn HM.out).mono ?_); rintro e w1 ⟨rfl, hd1⟩; have KW := Lib.hid (KW.out.trans (hd1.below _)); clear hd1)
  go_ret2
  exact ⟨rfl, KW.out⟩

set_option maxHeartbeats 4000000 in
theorem dProves_form (vd vr vp : Value) (n q np : Nat) (m mr : Nat → Nat) (d r : Nat → Nat → Int) (p : Nat → Int) (w : World) (hd : Mat w vd n m d) (hr : Mat w vr q mr r) (hp : Ints w vp np p)
    (hn : n ≤ 1048576) (hm : ∀ i, i < n → m i ≤ 1048576) (hq : q ≤ 1048576) (hmr : ∀ i, i < q → mr i ≤ 1048576) (hnp : np ≤ 1048576) (hD : Debts n m d)
    (hbad : ¬ (q = n ∧ np = n ∧ (∀ i, i < q → mr i = n) ∧ ∀ i, i < np → -1000 ≤ p i ∧ p i ≤ 1000)) :
    Calls Try.prog 19 #[vd, vr, vp] w fun e w' => e = .returned (.tuple #[.bool false, .int .i64 2]) ∧ Below w.heap.size w w' := by
  have hb0 := (Below.refl w.heap.size w).alloc (Nat.le_refl _) (.cells #[.int .i64 (n : Nat)] 3)
  have KW := Lib.hid hb0
  have HD := Lib.hid (hd.mono hb0 (Nat.le_refl _))
  have HR := Lib.hid (hr.mono hb0 (Nat.le_refl _))
  have HP := Lib.hid (hp.mono hb0 (Nat.le_refl _))
  have HC : Hid ((w.alloc (.cells #[.int .i64 (n : Nat)] 3)).cell? ⟨w.heap.size, 0, none⟩ = some (.int .i64 (n : Nat))) := Lib.hid (by simp [go_sem])
  have HM := Lib.hid hm
  have HDB := Lib.hid hD
  obtain ⟨a1, b1, o1, c1, ra1, rb1, ro1, rc1, rfl, s1⟩ := hd
  obtain ⟨a2, b2, o2, c2, ra2, rb2, ro2, rc2, rfl, s2⟩ := hr
  obtain ⟨a3, b3, o3, c3, rfl, s3⟩ := hp
  clear hm hD s1 hmr s2 s3 hb0
  by_cases h1 : q = n
  · subst h1
    have e1 : (((q : Nat) : Int) != ((q : Nat) : Int)) = false := by simp
    by_cases h2 : np = q
    · subst h2
      by_cases h3 : ∀ i, i < np → mr i = np
      · have HP3 : Hid (∃ i, i < np ∧ (p i < -1000 ∨ 1000 < p i)) := Lib.hid (by
          apply Classical.byContradiction
          intro hx
          refine hbad ⟨rfl, rfl, h3, fun i hi => ?_⟩
          apply Classical.byContradiction
          intro hy
          exact hx ⟨i, hi, by omega⟩)
        have H3 : Hid (¬ ∃ i, i < np ∧ mr i ≠ np) := Lib.hid (fun ⟨i, hi, hx⟩ => absurd (h3 i hi) hx)
        clear hbad h3
        go_enter Try.func19, Try.ntmps19
        go_wp2_with (first
          | (go_at_call 20; (with_reducible refine (square_any _ np m d true ⟨fun _ => HDB.out, fun _ => rfl⟩ _ HD.out hn HM.out).mono ?_); rintro e w1 ⟨rfl, hd1⟩; have hc1 := (drawn_cell hd1 ⟨w.heap.size, 0, none⟩).trans HC.out; have HC1 := Lib.hid hc1; have HR := Lib.hid (HR.out.drawn hd1); have HP := Lib.hid (HP.out.drawn hd1); have KW := Lib.hid (KW.out.trans (hd1.below _)); clear hd1)
          | (go_at_call 30; (with_reducible refine (cr_any _ np np _ mr r false ⟨fun e => Bool.noConfusion e, fun h => absurd h H3.out⟩ _ HR.out HC1.out hq).mono ?_); rintro e w2 ⟨rfl, hd2⟩; have HP := Lib.hid (HP.out.drawn hd2); have KW := Lib.hid (KW.out.trans (hd2.below _)); clear hd2 hc1)
          | (go_at_call 32; (with_reducible refine (cf_p_any _ np p true ⟨fun _ => HP3.out, fun _ => rfl⟩ _ HP.out hnp).mono ?_); rintro e w3 ⟨rfl, hd3⟩; have KW := Lib.hid (KW.out.trans (hd3.below _)); clear hd3))
        go_ret2
        exact ⟨rfl, KW.out⟩
      · have H3 : Hid (∃ i, i < np ∧ mr i ≠ np) := Lib.hid (by
          apply Classical.byContradiction
          intro hx
          refine h3 fun i hi => ?_
          apply Classical.byContradiction
          intro hy
          exact hx ⟨i, hi, hy⟩)
        clear hbad h3
        go_enter Try.func19, Try.ntmps19
        go_wp2_with (first
          | (go_at_call 20; (with_reducible refine (square_any _ np m d true ⟨fun _ => HDB.out, fun _ => rfl⟩ _ HD.out hn HM.out).mono ?_); rintro e w1 ⟨rfl, hd1⟩; have hc1 := (drawn_cell hd1 ⟨w.heap.size, 0, none⟩).trans HC.out; have HC1 := Lib.hid hc1; have HR := Lib.hid (HR.out.drawn hd1); have HP := Lib.hid (HP.out.drawn hd1); have KW := Lib.hid (KW.out.trans (hd1.below _)); clear hd1)
          | (go_at_call 30; (with_reducible refine (cr_any _ np np _ mr r true ⟨fun _ => H3.out, fun _ => rfl⟩ _ HR.out HC1.out hq).mono ?_); rintro e w2 ⟨rfl, hd2⟩; have KW := Lib.hid (KW.out.trans (hd2.below _)); clear hd2 hc1))
        go_ret2
        exact ⟨rfl, KW.out⟩
    · have e2 : (((np : Nat) : Int) != ((q : Nat) : Int)) = true := by simp; omega
      clear hbad h2
      go_enter Try.func19, Try.ntmps19
      go_wp2_with (go_at_call 20; (with_reducible refine (square_any _ q m d true ⟨fun _ => HDB.out, fun _ => rfl⟩ _ HD.out hn HM.out).mono ?_); rintro e w1 ⟨rfl, hd1⟩; have hc1 := (drawn_cell hd1 ⟨w.heap.size, 0, none⟩).trans HC.out; have KW := Lib.hid (KW.out.trans (hd1.below _)); clear hd1)
      go_ret2
      exact ⟨rfl, KW.out⟩
  · have e1 : (((q : Nat) : Int) != ((n : Nat) : Int)) = true := by simp; omega
    clear hbad h1
    go_enter Try.func19, Try.ntmps19
    go_wp2_with (go_at_call 20; (with_reducible refine (square_any _ n m d true ⟨fun _ => HDB.out, fun _ => rfl⟩ _ HD.out hn HM.out).mono ?_); rintro e w1 ⟨rfl, hd1⟩; have hc1 := (drawn_cell hd1 ⟨w.heap.size, 0, none⟩).trans HC.out; have KW := Lib.hid (KW.out.trans (hd1.below _)); clear hd1)
    go_ret2
    exact ⟨rfl, KW.out⟩

end Go.Proofs.Ytgmopcncbpdniaa
