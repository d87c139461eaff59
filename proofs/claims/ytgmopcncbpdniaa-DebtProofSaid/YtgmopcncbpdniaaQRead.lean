/- read of package debt, at a market that is one. -/
import Derived.Test.YtgmopcncbpdniaaQFun2
import Derived.Test.YtgmopcncbpdniaaQMkt1
set_option linter.unusedVariables false
set_option linter.unusedSimpArgs false
namespace Go.Proofs.Ytgmopcncbpdniaa
open Go.RowKit
attribute [local go_sem ↓] Go.wp_at_zero Go.wp_at_succ

theorem infoI : (Try.prog.info? 3).map (fun i => (i.zero, i.size, i.bytes)) = some (some (.int .i64 0), 1, 8) := by kernel_rfl

/-- the first n values, as a list of cells -/
def ics (f : Nat → Int) (n : Nat) : List Value := (List.range n).map (ic f)
theorem ics_get (f : Nat → Int) (n i : Nat) (h : i < n) : (ics f n)[i]? = some (ic f i) := by simp [ics, h]
theorem ics_succ (f : Nat → Int) (n : Nat) : ics f n ++ [.int .i64 (f n)] = ics f (n + 1) := by simp [ics, List.range_succ, ic]
theorem ints_of_own {w : World} {base n : Nat} {v : Value} {f : Nat → Int} (h : w.ownsRow base 3 1 v n (ics f n)) : Ints w v n f := Sl.of_own h (fun i hi => ics_get f n i hi)

theorem own_shape {w : World} {base e size n : Nat} {v : Value} {xs : List Value} (h : w.ownsRow base e size v n xs) : ∃ a c, v = .slice a n c := by
  rcases h.2 with ⟨rfl, rfl⟩ | ⟨g, cap, cur, rfl, _⟩
  · exact ⟨none, 0, rfl⟩
  · exact ⟨_, cap, rfl⟩
theorem Mat.row_len {w : World} {v : Value} {n : Nat} {m m' : Nat → Nat} {f : Nat → Nat → Int} (h : Mat w v n m f) (hm : ∀ i, i < n → m i = m' i) : Mat w v n m' f := by
  obtain ⟨a, b, o, c, ra, rb, ro, rc, rfl, h⟩ := h
  exact ⟨a, b, o, c, ra, rb, ro, rc, rfl, ⟨h.top.congr (fun i hi => by rw [hm i hi]), fun i hi => by rw [← hm i hi]; exact h.row i hi⟩⟩
theorem Own4.put3 {w : World} {b : Nat} {x y z u : Value} (h : Own4 w b x y z u) (v : Value) : Own4 (w.setCell ⟨b, 3, none⟩ v) b x y z v :=
  ⟨off_set (by decide) h.c0, off_set (by decide) h.c1, off_set (by decide) h.c2, self_set h.c3, fun o => by rw [World.frozen?_setCell]; exact h.f o, by simp only [World.setCell, Array.size_modify]; exact h.lt⟩
theorem own_block {w w' : World} {b : Nat} {row : Option Nat} {x y z u : Value} (h : Own4 w b x y z u) (hg : w.grownBy w' row) (hne : some b ≠ row) : Own4 w' b x y z u :=
  have e := hg.block b h.lt hne
  have c : ∀ o, w'.cell? ⟨b, o, none⟩ = w.cell? ⟨b, o, none⟩ := fun o => World.cell?_of_block (a := ⟨b, o, none⟩) e
  ⟨(c 0).trans h.c0, (c 1).trans h.c1, (c 2).trans h.c2, (c 3).trans h.c3, fun o => (World.frozen?_of_block (a := ⟨b, o, none⟩) e).trans (h.f o), Nat.lt_of_lt_of_le h.lt hg.size⟩

set_option maxHeartbeats 4000000 in
set_option maxRecDepth 100000 in
theorem read_ok (vc vd : Value) (n : Nat) (cash : Nat → Int) (m : Nat → Nat) (d : Nat → Nat → Int) (w : World) (hc : Ints w vc n cash) (hd : Mat w vd n m d) (hD : Debts n m d) (hC : ∀ i, i < n → 0 ≤ cash i ∧ cash i ≤ 1000) :
    Calls Try.prog 39 #[vc, vd] w fun e w' => ∃ b vt, e = .returned (.tuple #[.pointer (some ⟨b, 0, none⟩), .bool true]) ∧ IsMkt w' b n cash d vc vd vt ∧ Below w.heap.size w w' := by
  have HC := Lib.hid hc
  have HDM := Lib.hid hd
  have HDB := Lib.hid hD
  have HCB := Lib.hid hC
  have hn8 : n ≤ 8 := hD.2.1
  obtain ⟨ca, cb, co, cc, rfl, hcs⟩ := hc
  obtain ⟨da, db, d_o, dc, ra, rb, ro, rc, rfl, hdm⟩ := hd
  have HM := Lib.hid (show ∀ i, i < n → m i = n from fun i hi => (hD.2.2 i hi).1)
  have HV := Lib.hid (show ∀ i j, i < n → j < n → 0 ≤ d i j ∧ d i j ≤ 1000 from fun i j hi hj => (hD.2.2 i hi).2.2 j hj)
  have hneq : (((n : Nat) : Int) != ((n : Nat) : Int)) = false := by simp
  obtain ⟨i0, hi, hz0, hz1, hz2⟩ := info_parts infoI
  clear hD hC hcs
  go_enter Try.func39, Try.ntmps39
  go_wp2_with (first
    | (go_at_call 20; (with_reducible refine (square_any _ n m d true ⟨fun _ => HDB.out, fun _ => rfl⟩ _ HDM.out (by omega) (fun i hi => by rw [HM.out i hi]; omega)).mono ?_); rintro e w1 ⟨rfl, hd1⟩)
    | (go_at_call 35; (with_reducible refine (within_any _ n cash true ⟨fun _ => HCB.out, fun _ => rfl⟩ _ (HC.out.drawn hd1) (by omega)).mono ?_); rintro e w2 ⟨rfl, hd2⟩))
  have hsz : w.heap.size = w2.heap.size := by obtain ⟨k1, rfl⟩ := hd1; obtain ⟨k2, rfl⟩ := hd2; simp
  have KW := Lib.hid (((hd1.below w.heap.size).trans (hd2.below w.heap.size)).alloc (Nat.le_of_eq hsz) (.cells #[.int .i64 (n : Nat), .slice ca n cc, .slice da n dc, .slice none 0 0] 82))
  have PM := Lib.hid (own4_new w2 _ rfl (.int .i64 (n : Nat)) (.slice ca n cc) (.slice da n dc) (.slice none 0 0) 82)
  generalize hmb : w2.heap.size = mb at *
  have hmb2 := Lib.hid hmb
  clear hmb
  go_loopw [35] (fun v35 wr => ∃ k : Nat, k ≤ n ∧ v35 = .int .i64 (k : Nat) ∧ ∃ va vk, Hid (wr.ownsRow (mb + 1) 3 1 (.slice va k vk) k (ics (fun i => sumF (d i) n) k)) ∧ Hid (Own4 wr mb (.int .i64 (n : Nat)) (.slice ca n cc) (.slice da n dc) (.slice va k vk)) ∧ Hid (Below w.heap.size w wr)) (fun v35 _ => n - (intOf v35).toNat)
  case atStart => exact ⟨0, by omega, rfl, none, 0, Lib.hid (World.ownsRow_nil _ _ _ _), PM, KW⟩
  case round =>
    clear PM KW
    obtain ⟨k, hk, rfl, va, vk, OW, PM, KW⟩ := hrel
    by_cases h : k < n
    · have hdr := hdm.mono KW.out (Nat.le_refl _)
      have hix := fun W => ixM hdr.top k dc h W
      have hcr := hdr.top.cell k h
      have hrow := hdr.row k h
      have HROW := Lib.hid hrow
      have hmk := HM.out k h
      rw [hmk] at hcr
      clear hdr hrow hmk
      obtain ⟨p0, p1, p2, p3, pf, pl⟩ := PM.out
      go_wp2
      go_loop [9, 41] (fun v9 v41 => ∃ l : Nat, l ≤ n ∧ v41 = .int .i64 (l : Nat) ∧ v9 = .int .i64 (sumF (d k) l)) (fun _ v41 => n - (intOf v41).toNat)
      case atStart => exact ⟨0, by omega, rfl, rfl⟩
      case round =>
        obtain ⟨l, hl, rfl, rfl⟩ := hrel
        by_cases h2 : l < n
        · have hrow := HROW.out
          rw [HM.out k h] at hrow
          have hjx := fun W => ixI hrow l (rc k) h2 W
          have hjc := hrow.cell l h2
          simp only [ic] at hjc
          obtain ⟨v1, v2⟩ := HV.out k l h h2
          obtain ⟨s1, s2⟩ := sumF_bound (d k) l 1000 (fun i hi => by have := HV.out k i h (by omega); omega)
          have s3 : -(8000 : Int) ≤ sumF (d k) l := by omega
          have s4 : sumF (d k) l ≤ 8000 := by omega
          clear s1 s2 hrow
          go_wp2
          go_round
          case rel => exact ⟨l + 1, by omega, by go_num, rfl⟩
          case measure => simp [intOf]; omega
        · obtain rfl : l = n := by omega
          clear hix hcr
          have hbase : mb + 1 ≤ (wr.alloc (.cells #[.int .i64 (sumF (d k) l)] 3)).heap.size := by simp; omega
          have hnews : ∀ j u, [Value.int .i64 (sumF (d k) l)][j]? = some u → (wr.alloc (.cells #[.int .i64 (sumF (d k) l)] 3)).cell? ((⟨wr.heap.size, 0, none⟩ : Addr).add j) = some u := fun j u hj => by
            match j, hj with
            | 0, hj => simp at hj; subst hj; simp [go_sem, Addr.add]
          have hone : ∀ u ∈ [Value.int .i64 (sumF (d k) l)], u.oneCell' = true := fun u hu => by simp at hu; subst hu; rfl
          have HBS := Lib.hid hbase
          have HNW := Lib.hid hnews
          have HON := Lib.hid hone
          clear hbase hnews hone
          go_wp2_with (at_builtin; refine wpList_append_own _ rfl (.tmp 53) (.tmp 55) 23 rfl (mb + 1) 3 i0 (.int .i64 0) 1 8 Try.underlying23 hi hz0 hz1 hz2 rfl (by decide) (.slice va k vk) k (ics (fun i => sumF (d i) l) k) rfl (OW.out.alloc _) ⟨wr.heap.size, 0, none⟩ 1 1 [.int .i64 (sumF (d k) l)] rfl rfl HNW.out HON.out (by unfold maxLen; omega) (by omega) HBS.out ?_; intro v' w3 hown hgrow _; have hbk := (OW.out.alloc (.cells #[.int .i64 (sumF (d k) l)] 3)).lt; have PM := Lib.hid (own_block (PM.out.alloc _) hgrow (fun e => by have := (hbk mb e.symm).1; omega)); have KW := Lib.hid ((KW.out.alloc KW.out.size _).grown hgrow (by have := KW.out.size; simp; omega) (fun kk e => by have := (hbk kk e).1; have := hmb2.out; omega)); rw [ics_succ] at hown; obtain ⟨va', vk', rfl⟩ := own_shape hown; have OW := Lib.hid hown; obtain ⟨q0, q1, q2, q3, qf, ql⟩ := PM.out; clear hown hgrow hbk)
          go_roundw
          case rel =>
            refine ⟨k + 1, by omega, by go_num, va', vk', ?_, ?_, ?_⟩
            · exact Lib.hid (OW.out.kept (row := some mb) (grown_set (World.grownBy.refl _ _) 3 _) (by
                rcases hb : (Value.slice va' (k + 1) vk').ownBlock with _ | g
                · exact .inl rfl
                · right; intro e; have := (OW.out.lt g hb).1; have e2 := Option.some.inj e; omega))
            · exact Lib.hid (PM.out.put3 _)
            · exact Lib.hid (KW.out.setCell (by show w.heap.size ≤ mb; omega) _)
          case measure => simp [intOf]; omega
    · obtain rfl : k = n := by omega
      go_wp2
      go_ret2
      refine ⟨mb, _, rfl, ⟨PM.out.c0, PM.out.c1, PM.out.c2, PM.out.c3, HC.out.mono KW.out (Nat.le_refl _), ?_, ints_of_own OW.out, PM.out.lt⟩, KW.out⟩
      have h := HDM.out.mono KW.out (Nat.le_refl _)
      exact h.row_len HM.out

end Go.Proofs.Ytgmopcncbpdniaa
