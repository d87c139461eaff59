/- Num and Is of the reference: the text of a fraction. -/
import Derived.Test.YtgmopcncbpdniaaGreatHFig
import Derived.Test.YtgmopcncbpdniaaGreatHVRow
import Derived.Test.YtgmopcncbpdniaaGreatHRecv
import Derived.Test.YtgmopcncbpdniaaGreatHRow
import Derived.Test.YtgmopcncbpdniaaGreatHRMat
set_option linter.unusedVariables false
set_option linter.unusedSimpArgs false
namespace Go.Proofs.YtgmopcncbpdniaaGreat
open Go.RowKit
attribute [local go_sem ↓] Go.wp_at_zero Go.wp_at_succ
theorem bytes_loop (bs : ByteArray) : ∀ (n i : Nat) (r : List UInt8), bs.size - i = n → ByteArray.toList.loop bs i r = r.reverse ++ bs.data.toList.drop i := by
  intro n
  induction n with
  | zero =>
    intro i r h
    unfold ByteArray.toList.loop
    have : ¬ i < bs.size := by omega
    rw [if_neg this]
    have : bs.data.toList.drop i = [] := by
      apply List.drop_eq_nil_of_le
      have h2 : bs.data.toList.length = bs.size := rfl
      omega
    rw [this]; simp
  | succ n ih =>
    intro i r h
    unfold ByteArray.toList.loop
    have hi : i < bs.size := by omega
    rw [if_pos hi, ih (i+1) _ (by omega)]
    have h2 : i < bs.data.toList.length := hi
    rw [List.drop_eq_getElem_cons h2]
    simp
    show bs.get! i = _
    unfold ByteArray.get!
    exact getElem!_pos bs.data i hi
theorem bytes_list (s : ByteArray) : s.toList = s.data.toList := by
  unfold ByteArray.toList
  rw [bytes_loop s _ 0 [] rfl]; simp
theorem bytes_ne {s : ByteArray} {l : List UInt8} (h : s ≠ ⟨l.toArray⟩) : (s.toList == l) = false := by
  rw [bytes_list]
  apply beq_false_of_ne
  intro e
  apply h
  cases s
  simp at e
  subst e
  simp
theorem Len10.uniq {x L M : Nat} (h : Len10 x L) (h' : Len10 x M) : L = M := by
  rcases Nat.eq_zero_or_pos x with e | e
  · rw [h.zero e, h'.zero e]
  · obtain ⟨a1, a2⟩ := h.ge e
    obtain ⟨b1, b2⟩ := h'.ge e
    have key : ∀ {L M : Nat}, 10 ^ (L - 1) ≤ x → x < 10 ^ M → 0 < L → L ≤ M := fun h1 h2 h3 => by
      have h4 := (Nat.pow_lt_pow_iff_right (by omega : 1 < 10)).1 (Nat.lt_of_le_of_lt h1 h2)
      omega
    exact Nat.le_antisymm (key a2 h'.lt a1) (key b2 h.lt b1)
theorem IsTxt.uniq {s t : ByteArray} {x : Nat} (h : IsTxt s x) (h' : IsTxt t x) : s = t := by
  obtain ⟨L, h1, h2, h3⟩ := h
  obtain ⟨M, g1, g2, g3⟩ := h'
  obtain rfl := h1.uniq g1
  have hs : s.data.size = t.data.size := by
    have a : s.data.size = s.size := rfl
    have b : t.data.size = t.size := rfl
    omega
  have hd : s.data = t.data := by
    apply Array.ext hs
    intro i hi hj
    apply UInt8.toNat_inj.1
    have a := h3 i hi
    have b := g3 i hj
    exact a.trans b.symm
  cases s; cases t; simp_all
theorem FracTxt.uniq {s t : ByteArray} {p : Int} {d : Nat} (h : FracTxt s p d) (h' : FracTxt t p d) : s = t := by
  obtain ⟨a, h1, h2⟩ := h
  obtain ⟨b, g1, g2⟩ := h'
  obtain rfl := h1.uniq g1
  rcases h2 with ⟨hd, rfl⟩ | ⟨hd, u, hu, rfl⟩
  · rcases g2 with ⟨_, rfl⟩ | ⟨hd2, _⟩
    · rfl
    · exact absurd hd hd2
  · rcases g2 with ⟨hd2, _⟩ | ⟨_, v, hv, rfl⟩
    · exact absurd hd2 hd
    · rw [hu.uniq hv]
theorem isTxt_one : IsTxt ⟨#[49]⟩ 1 := ⟨1, ⟨by decide, fun h => by omega, fun _ => ⟨by omega, by decide⟩⟩, rfl, fun i h => by
  have : i = 0 := by have : i < 1 := h; omega
  subst this; rfl⟩
theorem isTxt_ne {s : ByteArray} {x : Nat} (h : IsTxt s x) (hx : x ≠ 1) : s ≠ ⟨#[49]⟩ := fun e => by
  obtain ⟨L, h1, h2, h3⟩ := h
  subst e
  have hL : L = 1 := h2.symm
  subst hL
  have h4 := h3 0 (by decide)
  have h5 := h1.lt
  have h6 : (48 : Nat) + d10 x (1 - 1 - 0) = 49 := by rw [← h4]; rfl
  unfold d10 at h6
  simp at h6
  omega
set_option maxHeartbeats 4000000 in
theorem rnum_any (x : Value) (q : Rat) (k : Nat) (w : World) (hx : QV w x q k) (hk : k ≤ 100000000) (hN : MaxD q.num.natAbs) (hD : MaxD q.den) :
    Calls Tryz.prog 92 #[x] w fun e w' => ∃ t, e = .returned (.tuple #[.string t, .bool true]) ∧ FracTxt t q.num q.den ∧ Below w.heap.size w w' := by
  obtain ⟨s1, a1, n1, c1, t1, a2, n2, c2, rfl, HQ⟩ := hx.shape
  have KW0 := Lib.hid (boxes1 w (.cells #[.bool s1, .slice a1 n1 c1, .bool t1, .slice a2 n2 c2] 40))
  have HQ := Lib.hid (HQ.out.mono KW0.out (Nat.le_refl _))
  have O1 := Lib.hid (own4_new w w.heap.size rfl (.bool s1) (.slice a1 n1 c1) (.bool t1) (.slice a2 n2 c2) 40)
  have HND := Lib.hid (And.intro hN hD)
  clear hx hN hD
  obtain ⟨x0, x1, x2, x3, xf, xl⟩ := O1.out
  go_enter Tryz.func92, Tryz.ntmps92
  go_wp2_with fail
  refine (qv_low _ q k _ HQ.out (by omega)).mono ?_
  rintro e w2 ⟨r2, rfl, hr2, hb2⟩
  obtain ⟨s3, a3, n3, c3, t3, a4, n4, c4, rfl, HZN, HZD, -⟩ := hr2.shape
  have O1 := Lib.hid (O1.out.below hb2 O1.out.lt)
  have KW := Lib.hid (KW0.out.trans (hb2.mono KW0.out.size))
  clear x0 x1 x2 x3 xf xl hb2 hr2 KW0 HQ
  obtain ⟨x0, x1, x2, x3, xf, xl⟩ := O1.out
  go_wp2_with fail
  have O2 := Lib.hid (O1.out.anew (.bool s3) (.slice a3 n3 c3) (.bool t3) (.slice a4 n4 c4))
  have HZN := Lib.hid (HZN.out.at4 O1.out (.bool s3) (.slice a3 n3 c3) (.bool t3) (.slice a4 n4 c4))
  have HZD := Lib.hid (HZD.out.at4 O1.out (.bool s3) (.slice a3 n3 c3) (.bool t3) (.slice a4 n4 c4))
  have KW := Lib.hid (below_set4q KW.out (Nat.le_refl _) (.bool s3) (.slice a3 n3 c3) (.bool t3) (.slice a4 n4 c4))
  clear x0 x1 x2 x3 xf xl O1
  generalize ((((w2.setCell ⟨w.heap.size, 0, none⟩ (.bool s3)).setCell ⟨w.heap.size, 1, none⟩ (.slice a3 n3 c3)).setCell ⟨w.heap.size, 2, none⟩ (.bool t3)).setCell ⟨w.heap.size, 3, none⟩ (.slice a4 n4 c4)) = w3 at *
  have HSG : Hid (s3 = decide (q.num < 0)) := Lib.hid HZN.out.sign
  have HB1 := Lib.hid HZN.out.digits
  have HB2 := Lib.hid HZD.out.digits
  have keepR : Hid (∀ w', Below w3.heap.size w3 w' → w'.cell? ⟨w.heap.size, 0, none⟩ = some (.bool s3) ∧ w'.cell? ⟨w.heap.size, 1, none⟩ = some (.slice a3 n3 c3) ∧ w'.cell? ⟨w.heap.size, 2, none⟩ = some (.bool t3) ∧ w'.cell? ⟨w.heap.size, 3, none⟩ = some (.slice a4 n4 c4)) :=
    Lib.hid (fun w' hb => ⟨bel1 hb O2.out.c0 O2.out.lt, bel1 hb O2.out.c1 O2.out.lt, bel1 hb O2.out.c2 O2.out.lt, bel1 hb O2.out.c3 O2.out.lt⟩)
  have VL0 := Lib.hid (Below.refl w3.heap.size w3)
  have VL := Lib.hid VL0.out.drew
  have HDG : Hid (∃ u2, Value.slice a4 n4 c4 = u2 ∧ Dg w3 u2 q.den) := Lib.hid (by
    obtain ⟨u, e, h1, h2⟩ := HZD.out
    injection e with e
    injection e with e
    simp only [List.cons.injEq, and_true] at e
    obtain ⟨-, e⟩ := e
    exact ⟨u, e, by simpa using h1⟩)
  obtain ⟨u2, e2, hd2⟩ := HDG.out
  subst e2
  have HD2 := Lib.hid hd2
  clear hd2 HDG
  go_region_held3 (fun w' => w'.cell? ⟨w.heap.size, 0, none⟩ = some (.bool s3) ∧ w'.cell? ⟨w.heap.size, 1, none⟩ = some (.slice a3 n3 c3) ∧ w'.cell? ⟨w.heap.size, 2, none⟩ = some (.bool t3) ∧ w'.cell? ⟨w.heap.size, 3, none⟩ = some (.slice a4 n4 c4))
    (first | (with_reducible exact keepR.out _ VL0.out) | (with_reducible exact keepR.out _ VL.out))
    (first
    | (go_at_call 120; (with_reducible refine (zabs_any _ q.num k _ (HZN.out.mono VL.out (Nat.le_refl _))).mono ?_); rintro e w4 ⟨r4, rfl, hr4, hb4⟩; obtain ⟨u4, rfl, hd4, -⟩ := hr4; have HD4 := Lib.hid hd4; clear hd4; have VL := Lib.hid (VL.out.trans (hb4.mono VL.out.size)))
    | (go_at_call 124; have X1 := HD4.out; clear HD4; (with_reducible refine (figures_any _ _ _ _ X1 (by have := HB1.out; simp; omega)).mono ?_); clear X1; rintro e w5 ⟨f5, rfl, hf5, hb5⟩; have HF5 := Lib.hid hf5; clear hf5; have VL := Lib.hid (VL.out.trans (hb5.mono VL.out.size)))
    | (go_at_call 124; (with_reducible refine (figures_any _ _ _ _ (HD2.out.mono VL.out (Nat.le_refl _)) (by have := HB2.out; simp at this; omega)).mono ?_); rintro e w6 ⟨f6, rfl, hf6, hb6⟩; have HF6 := Lib.hid hf6; clear hf6; have VL := Lib.hid (VL.out.trans (hb6.mono VL.out.size))))
  have HF5 : Hid (IsTxt f5 q.num.natAbs) := Lib.hid (by have h := HF5.out; rw [Int.natAbs_natCast] at h; exact h)
  have O3 := Lib.hid (O2.out.below VL.out O2.out.lt)
  have KW := Lib.hid (KW.out.trans (VL.out.mono KW.out.size))
  have Z1 : f5.size ≤ 4000 := HF5.out.size (by omega) HND.out.1.lt
  have Z2 : f6.size ≤ 4000 := HF6.out.size (by omega) HND.out.2.lt
  have ha1 := nb1 Z1
  have ha2 := nb2 Z1
  have ha3 := nb3 Z1
  have ha4 := nb4 Z1 Z2
  have ha5 := nb5 Z1 Z2
  have d1 : decide ((4000 : Int) < (f5.size : Int)) = false := by simp; omega
  have d2 : decide ((4000 : Int) < (f6.size : Int)) = false := by simp; omega
  have HFT : Hid (∀ r, r = (if s3 = true then ⟨#[45]⟩ ++ f5 else f5) → (q.den = 1 → FracTxt r q.num q.den) ∧ (q.den ≠ 1 → FracTxt (r ++ (⟨#[47]⟩ ++ f6)) q.num q.den)) := Lib.hid (by
    intro r hr
    have e : r = (if q.num < 0 then ⟨#[45]⟩ ++ f5 else f5) := by
      rw [hr, HSG.out]; by_cases h : q.num < 0 <;> simp [h]
    subst e
    exact ⟨fun h => ⟨f5, HF5.out, .inl ⟨h, rfl⟩⟩, fun h => ⟨f5, HF5.out, .inr ⟨h, f6, HF6.out, rfl⟩⟩⟩)
  obtain ⟨x0, x1, x2, x3, xf, xl⟩ := O3.out
  clear keepR VL VL0 HZN HZD HD2 HB1 HB2 O2 HSG
  by_cases hd : q.den = 1
  · have hf6 : f6 = ⟨#[49]⟩ := by
      have h1 := HF6.out
      rw [hd] at h1
      exact h1.uniq isTxt_one
    subst hf6
    have HD1 := Lib.hid hd
    clear hd
    cases s3
    · go_wp2
      go_ret2
      exact ⟨_, rfl, (HFT.out f5 (by simp)).1 HD1.out, KW.out⟩
    · go_wp2
      go_ret2
      exact ⟨_, rfl, (HFT.out (⟨#[45]⟩ ++ f5) (by simp)).1 HD1.out, KW.out⟩
  · have hf6 : f6 ≠ ⟨#[49]⟩ := isTxt_ne HF6.out hd
    have e1 : (f6.toList == [49]) = false := bytes_ne hf6
    have HD1 := Lib.hid hd
    clear hd
    cases s3
    · go_wp2
      go_ret2
      exact ⟨_, rfl, by first | exact (HFT.out f5 (by simp)).2 HD1.out | (rw [ByteArray.append_assoc]; exact (HFT.out f5 (by simp)).2 HD1.out), KW.out⟩
    · go_wp2
      go_ret2
      exact ⟨_, rfl, by first | exact (HFT.out (⟨#[45]⟩ ++ f5) (by simp)).2 HD1.out | (rw [ByteArray.append_assoc]; exact (HFT.out (⟨#[45]⟩ ++ f5) (by simp)).2 HD1.out), KW.out⟩
set_option maxHeartbeats 1000000 in
theorem is_any (s : ByteArray) (x : Value) (q : Rat) (k : Nat) (w : World) (hs : FracTxt s q.num q.den) (hx : QV w x q k) (hk : k ≤ 100000000) (hN : MaxD q.num.natAbs) (hD : MaxD q.den) :
    Calls Tryz.prog 57 #[.string s, x] w fun e w' => e = .returned (.bool true) ∧ Below w.heap.size w w' := by
  obtain ⟨s1, a1, n1, c1, t1, a2, n2, c2, rfl, HQ⟩ := hx.shape
  have KW0 := Lib.hid (boxes1 w (.cells #[.bool s1, .slice a1 n1 c1, .bool t1, .slice a2 n2 c2] 40))
  have HQ := Lib.hid (HQ.out.mono KW0.out (Nat.le_refl _))
  have HS := Lib.hid hs
  have HND := Lib.hid (And.intro hN hD)
  clear hx hs hN hD
  go_enter Tryz.func57, Tryz.ntmps57
  go_wp2_with fail
  refine (rnum_any _ q k _ HQ.out hk HND.out.1 HND.out.2).mono ?_
  rintro e w2 ⟨t, rfl, ht, hb⟩
  obtain rfl := HS.out.uniq ht
  have KW0 := Lib.hid (KW0.out.trans (hb.mono KW0.out.size))
  clear hb ht
  go_wp2
  go_ret
  exact ⟨rfl, KW0.out⟩
end Go.Proofs.YtgmopcncbpdniaaGreat

/- Are of the reference, where the texts are those of the numbers. -/
namespace Go.Proofs.YtgmopcncbpdniaaGreat
open Go.RowKit
attribute [local go_sem ↓] Go.wp_at_zero Go.wp_at_succ
set_option maxHeartbeats 2000000 in
set_option maxRecDepth 100000 in
theorem are_true (v x : Value) (n : Nat) (q : Nat → Rat) (ss : Nat → ByteArray) (K : Nat) (w : World) (hs : Strs w v n ss) (hx : VSl w x n q K) (ht : TxtQs n q ss) (hn : n ≤ 1000) (hK : K ≤ 100000000) :
    Calls Tryz.prog 26 #[v, x] w fun e w' => e = .returned (.bool true) ∧ Below w.heap.size w w' := by
  obtain ⟨a, b, o, c, rfl, hss⟩ := hs
  obtain ⟨g, gc, rfl, hgc, hgl, hgv⟩ := hx.val
  have HS := Lib.hid hss
  have HV := Lib.hid hgv
  have HGL := Lib.hid hgl
  have HT := Lib.hid ht
  have KW0 := Lib.hid (Below.refl w.heap.size w)
  have d0 : ((n : Int) != (n : Int)) = false := by simp
  clear hss hgv hgl ht hx
  go_enter Tryz.func26, Tryz.ntmps26
  go_wp2
  go_loopw [5] (fun v5 wr => ∃ k : Nat, k ≤ n ∧ v5 = .int .i64 (k : Nat) ∧ Hid (Below w.heap.size w wr)) (fun v5 _ => n - (intOf v5).toNat)
  case atStart => exact ⟨0, by omega, rfl, KW0⟩
  case round =>
    clear KW0
    obtain ⟨k, hk, rfl, KW⟩ := hrel
    by_cases h : k < n
    · have e1 : decide ((k : Int) < (n : Int)) = true := by simpa using h
      have e1n : decide (k < n) = true := by simpa using h
      have ixp := fun W => ixV g n gc k h W
      have ixs := fun W => ixN HS.out k c h W
      obtain ⟨s5, a5, n5, c5, t5, b5, l5, k5, z0, z1, z2, z3, zq⟩ := HV.out k h
      have y1 := HS.out.cell k h
      have HLT := Lib.hid (HS.out.lt (show 0 < n by omega))
      have keepR : Hid (∀ w', Below w.heap.size w w' → w'.cell? ⟨b, o + k, none⟩ = some (.string (ss k)) ∧ w'.cell? ⟨g, k * 4, none⟩ = some (.bool s5) ∧ w'.cell? ⟨g, k * 4 + 1, none⟩ = some (.slice a5 n5 c5) ∧ w'.cell? ⟨g, k * 4 + 2, none⟩ = some (.bool t5) ∧ w'.cell? ⟨g, k * 4 + 3, none⟩ = some (.slice b5 l5 k5)) :=
        Lib.hid (fun w' hb => ⟨bel1 hb y1 HLT.out, bel1 hb z0 HGL.out, bel1 hb z1 HGL.out, bel1 hb z2 HGL.out, bel1 hb z3 HGL.out⟩)
      have HTX := Lib.hid (HT.out.txt k h)
      have HQ := Lib.hid zq
      have KW0 := KW
      have KW := Lib.hid KW.out.drew
      clear zq z0 z1 z2 z3 y1
      go_wp2
      go_region_held3 (fun w' => w'.cell? ⟨b, o + k, none⟩ = some (.string (ss k)) ∧ w'.cell? ⟨g, k * 4, none⟩ = some (.bool s5) ∧ w'.cell? ⟨g, k * 4 + 1, none⟩ = some (.slice a5 n5 c5) ∧ w'.cell? ⟨g, k * 4 + 2, none⟩ = some (.bool t5) ∧ w'.cell? ⟨g, k * 4 + 3, none⟩ = some (.slice b5 l5 k5))
        (first | (with_reducible exact keepR.out _ KW0.out) | (with_reducible exact keepR.out _ KW.out))
        (first | (go_at_call 57; (with_reducible refine (is_any (ss k) _ (q k) K _ HTX.out.txt (HQ.out.mono KW.out (Nat.le_refl _)) hK HTX.out.mn HTX.out.md).mono ?_); rintro e w3 ⟨rfl, hb3⟩; have KW := Lib.hid (KW.out.trans (hb3.mono KW.out.size))))
      all_goals
        go_wp2
        go_roundw
        case rel => exact ⟨k + 1, by omega, by go_num, KW⟩
        case measure => simp [intOf]; omega
    · obtain rfl : n = k := by omega
      have e1 : decide ((n : Int) < (n : Int)) = false := by simp
      go_wp2
      go_ret
      exact ⟨rfl, KW.out⟩
end Go.Proofs.YtgmopcncbpdniaaGreat

/- Gauss-Jordan elimination with a search for the pivot: the plain law. -/
namespace Go.Proofs.YtgmopcncbpdniaaGreat
/-- y, with y n for the right side's factor, solves the n equations -/
def ZeroQ (n : Nat) (M : Nat → Nat → Rat) (y : Nat → Rat) : Prop := ∀ i, i < n → sumQ (fun j => M i j * y j) (n + 1) = 0
structure GJ (n c : Nat) (M0 M : Nat → Nat → Rat) : Prop where
  zero : ∀ i j, i < n → j < c → i ≠ j → M i j = 0
  piv : ∀ j, j < c → M j j ≠ 0
  eqv : ∀ y, ZeroQ n M y ↔ ZeroQ n M0 y
theorem GJ.start (n : Nat) (M : Nat → Nat → Rat) : GJ n 0 M M := ⟨fun i j _ h => by omega, fun j h => by omega, fun y => Iff.rfl⟩
/-- no pivot in column c: there is a kernel -/
theorem GJ.sing {n c : Nat} {M0 M : Nat → Nat → Rat} (h : GJ n c M0 M) (hc : c < n) (hz : ∀ i, c ≤ i → i < n → M i c = 0) : ∃ y, ZeroQ n M0 y ∧ y n = 0 ∧ y c = 1 := by
  refine ⟨fun j => if j = c then 1 else if j < c then -(M j c / M j j) else 0, (h.eqv _).1 (fun i hi => ?_), ?_, by simp⟩
  · by_cases hic : i < c
    · have e : ∀ j, j < n + 1 → M i j * (if j = c then 1 else if j < c then -(M j c / M j j) else 0) = (if j = c then M i c else 0) + (if j = i then -M i c else 0) := fun j hj => by
        by_cases e1 : j = c
        · subst e1
          have : ¬ j = i := by omega
          simp [this]; grind
        · by_cases e2 : j < c
          · by_cases e3 : j = i
            · subst e3
              simp only [e1, e2, if_true, if_false]
              have := h.piv j e2
              grind
            · have := h.zero i j hi e2 (fun q => e3 q.symm)
              simp [e1, e2, e3, this]; grind
          · have e3 : ¬ j = i := by omega
            simp [e1, e2, e3]; grind
      rw [sumQ_congr _ e, sumQ_add, sumQ_one _ c _ (by omega) (fun j _ hj => by simp [hj]), sumQ_one _ i _ (by omega) (fun j _ hj => by simp [hj])]
      simp; grind
    · refine sumQ_eq_zero _ (fun j hj => ?_)
      by_cases e1 : j = c
      · subst e1; rw [hz i (by omega) hi]; simp
      · by_cases e2 : j < c
        · rw [h.zero i j hi e2 (by omega)]; simp
        · simp [e1, e2]
  · have : ¬ n = c := by omega
    have : ¬ n < c := by omega
    simp [*]
/-- rows c and a changed about -/
def swapQ (M : Nat → Nat → Rat) (c a : Nat) (i : Nat) : Nat → Rat := if i = c then M a else if i = a then M c else M i
theorem GJ.swap {n c a : Nat} {M0 M : Nat → Nat → Rat} (h : GJ n c M0 M) (ha : c ≤ a) (hn : a < n) : GJ n c M0 (swapQ M c a) := by
  refine ⟨fun i j hi hj hij => ?_, fun j hj => ?_, fun y => ?_⟩
  · unfold swapQ
    split
    · exact h.zero a j hn hj (by omega)
    · split
      · exact h.zero c j (by omega) hj (by omega)
      · exact h.zero i j hi hj hij
  · unfold swapQ
    rw [if_neg (by omega), if_neg (by omega)]; exact h.piv j hj
  · rw [← h.eqv y]
    unfold ZeroQ swapQ
    constructor
    · intro g i hi
      by_cases e1 : i = c
      · subst e1
        by_cases e2 : a = i
        · subst e2; have := g a hn; simpa using this
        · have := g a hn; simpa [e2] using this
      · by_cases e2 : i = a
        · subst e2; have := g c (by omega); simpa using this
        · have := g i hi; simpa [e1, e2] using this
    · intro g i hi
      split
      · exact g a hn
      · split
        · exact g c (by omega)
        · exact g i hi
/-- rows below i (but row c), and of row i the columns below j, have been cleared by row c -/
def clrM (c i j : Nat) (M : Nat → Nat → Rat) (r l : Nat) : Rat := if (r < i ∧ r ≠ c) ∨ (r = i ∧ i ≠ c ∧ l < j) then M r l - M r c / M c c * M c l else M r l
theorem GJ.clear {n c : Nat} {M0 M : Nat → Nat → Rat} (h : GJ n c M0 M) (hc : c < n) (hp : M c c ≠ 0) : GJ n (c + 1) M0 (clrM c n 0 M) := by
  have hrow : clrM c n 0 M c = M c := by
    funext l; unfold clrM; rw [if_neg (by omega)]
  have hoth : ∀ i, i < n → i ≠ c → ∀ l, clrM c n 0 M i l = M i l - M i c / M c c * M c l := fun i hi hic l => by
    unfold clrM; rw [if_pos (.inl ⟨hi, hic⟩)]
  have hcz : ∀ j, j < c → M c j = 0 := fun j hj => h.zero c j hc hj (by omega)
  refine ⟨fun i j hi hj hij => ?_, fun j hj => ?_, fun y => ?_⟩
  · by_cases e : i = c
    · subst e; rw [hrow]; exact hcz j (by omega)
    · rw [hoth i hi e]
      by_cases e2 : j = c
      · subst e2; grind
      · rw [hcz j (by omega), h.zero i j hi (by omega) hij]; grind
  · by_cases e : j = c
    · subst e; rw [hrow]; exact hp
    · rw [hoth j (by omega) e, hcz j (by omega)]
      have := h.piv j (by omega)
      grind
  · rw [← h.eqv y]
    have hs : ∀ i, i < n → i ≠ c → sumQ (fun l => clrM c n 0 M i l * y l) (n + 1) = sumQ (fun l => M i l * y l) (n + 1) - M i c / M c c * sumQ (fun l => M c l * y l) (n + 1) := fun i hi hic => by
      rw [← sumQ_mul, ← sumQ_sub]
      exact sumQ_congr _ (fun l _ => by rw [hoth i hi hic]; grind)
    constructor
    · intro g i hi
      have gc := g c hc
      simp only [hrow] at gc
      by_cases e : i = c
      · subst e; exact gc
      · have := g i hi
        rw [hs i hi e, gc] at this
        grind
    · intro g i hi
      have gc := g c hc
      by_cases e : i = c
      · subst e; simp only [hrow]; exact gc
      · rw [hs i hi e, gc, g i hi]; grind
/-- the solution is read from the diagonal -/
theorem GJ.sol {n : Nat} {M0 M : Nat → Nat → Rat} (h : GJ n n M0 M) (x : Nat → Rat) : (∀ i, i < n → sumQ (fun j => M0 i j * x j) n = M0 i n) ↔ ∀ i, i < n → x i = M i n / M i i := by
  have hx : ∀ N : Nat → Nat → Rat, (∀ i, i < n → sumQ (fun j => N i j * x j) n = N i n) ↔ ZeroQ n N (fun j => if j < n then x j else -1) := fun N => by
    have e : ∀ i, sumQ (fun j => N i j * (if j < n then x j else -1)) (n + 1) = sumQ (fun j => N i j * x j) n - N i n := fun i => by
      show sumQ _ n + _ = _
      rw [sumQ_congr (g := fun j => N i j * x j) n (fun j hj => by simp [hj])]
      simp; grind
    unfold ZeroQ
    constructor
    · intro g i hi; rw [e i, g i hi]; grind
    · intro g i hi; have := g i hi; rw [e i] at this; grind
  rw [hx M0, ← h.eqv, ← hx M]
  have hd : ∀ i, i < n → sumQ (fun j => M i j * x j) n = M i i * x i := fun i hi =>
    sumQ_one _ i n hi (fun j hj hji => by rw [h.zero i j hi hj (fun e => hji e.symm)]; simp)
  constructor
  · intro g i hi
    have h1 := g i hi
    rw [hd i hi] at h1
    have := h.piv i hi
    grind
  · intro g i hi
    rw [hd i hi, g i hi]
    have := h.piv i hi
    grind
end Go.Proofs.YtgmopcncbpdniaaGreat

/- Rows and matrices of the reference's fractions in memory of a call's own. -/
namespace Go.Proofs.YtgmopcncbpdniaaGreat
open Go.RowKit
theorem ZIs.atR {w : World} {v : Value} {z : Int} {m g o : Nat} {s t : Bool} {a a2 : Option Addr} {n c n2 c2 : Nat} (h : ZIs w v z m) (u0 u1 u2 u3 : Value) (hr : Rd4 w g o (.bool s) (.slice a n c) (.bool t) (.slice a2 n2 c2)) :
    ZIs (st4 w g o u0 u1 u2 u3) v z m :=
  (((h.setCell u0 hr.c0 (noInt_bool _)).setCell u1 (off_set (by omega) hr.c1) (noInt_slice _ _ _)).setCell u2 (off_set (by omega) (off_set (by omega) hr.c2)) (noInt_bool _)).setCell u3 (off_set (by omega) (off_set (by omega) (off_set (by omega) hr.c3))) (noInt_slice _ _ _)
theorem QV.atR {w : World} {v : Value} {q : Rat} {m g o : Nat} {s t : Bool} {a a2 : Option Addr} {n c n2 c2 : Nat} (h : QV w v q m) (u0 u1 u2 u3 : Value) (hr : Rd4 w g o (.bool s) (.slice a n c) (.bool t) (.slice a2 n2 c2)) :
    QV (st4 w g o u0 u1 u2 u3) v q m := by
  obtain ⟨p, d, ⟨s1, v1, s2, v2, h0, h1, h2, h3⟩, e⟩ := h
  exact ⟨p, d, ⟨s1, v1, s2, v2, h0, h1.atR _ _ _ _ hr, h2.atR _ _ _ _ hr, h3⟩, e⟩
theorem QV.store1 {w : World} {v : Value} {q : Rat} {m : Nat} {p : Addr} {v0 : Value} (h : QV w v q m) (u : Value) (hp : w.cell? p = some v0) (hn : NoInt v0) : QV (w.setCell p u) v q m := by
  obtain ⟨x, d, ⟨s1, v1, s2, v2, h0, h1, h2, h3⟩, e⟩ := h
  exact ⟨x, d, ⟨s1, v1, s2, v2, h0, h1.setCell u hp hn, h2.setCell u hp hn, h3⟩, e⟩
/-- n fractions in a block of the call's own, those of P with their values; K bounds their digits -/
structure RowV (w : World) (g n : Nat) (P : Nat → Prop) (q : Nat → Rat) (K : Nat → Nat) : Prop where
  cell : ∀ j, j < n → ∃ s a m c t a2 m2 c2, Rd4 w g (j * 4) (.bool s) (.slice a m c) (.bool t) (.slice a2 m2 c2) ∧ (P j → QV w (.agg #[.bool s, .slice a m c, .bool t, .slice a2 m2 c2]) (q j) (K j))
  f : ∀ o, w.frozen? ⟨g, o, none⟩ = false
  lt : g < w.heap.size
section
variable {w w' : World} {g n B i o : Nat} {P : Nat → Prop} {q : Nat → Rat} {K : Nat → Nat}
theorem RowV.below (h : RowV w g n P q K) (hb : Below B w w') (hB : w.heap.size ≤ B) : RowV w' g n P q K :=
  ⟨fun j hj => by
    obtain ⟨s, a, m, c, t, a2, m2, c2, h1, h2⟩ := h.cell j hj
    exact ⟨s, a, m, c, t, a2, m2, c2, h1.below hb (Nat.lt_of_lt_of_le h1.lt hB), fun p => (h2 p).mono hb hB⟩,
   fun o => (hb.frozen (p := ⟨g, o, none⟩) (Nat.lt_of_lt_of_le h.lt hB)).trans (h.f o), Nat.lt_of_lt_of_le h.lt hb.size⟩
theorem RowV.alloc (h : RowV w g n P q K) (o : Obj) : RowV (w.alloc o) g n P q K := h.below ((Below.refl w.heap.size w).alloc (Nat.le_refl _) o) (Nat.le_refl _)
def updN (K : Nat → Nat) (i x : Nat) : Nat → Nat := fun j => if j = i then x else K j
theorem RowV.set (h : RowV w g n P q K) (hi : i < n) (ho : o = i * 4) {s t : Bool} {a a2 : Option Addr} {m c m2 c2 k : Nat} {x : Rat}
    (hx : QV w (.agg #[.bool s, .slice a m c, .bool t, .slice a2 m2 c2]) x k) :
    RowV (st4 w g o (.bool s) (.slice a m c) (.bool t) (.slice a2 m2 c2)) g n (fun j => j = i ∨ P j) (updQ q i x) (updN K i k) := by
  subst ho
  obtain ⟨s', a', m', c', t', a2', m2', c2', hr, hv⟩ := h.cell i hi
  refine ⟨fun j hj => ?_, fun o => by rw [frozen_st4]; exact h.f o, by rw [size_st4]; exact h.lt⟩
  by_cases e : j = i
  · subst e
    exact ⟨s, a, m, c, t, a2, m2, c2, hr.anew _ _ _ _, fun _ => by rw [updQ, if_pos rfl, updN, if_pos rfl]; exact hx.atR _ _ _ _ hr⟩
  · obtain ⟨s1, a1, m1, c1, t1, b1, m3, c3, hr1, hv1⟩ := h.cell j hj
    exact ⟨s1, a1, m1, c1, t1, b1, m3, c3, hr1.off _ _ _ _ (by omega), fun p => by rw [updQ, if_neg e, updN, if_neg e]; exact (hv1 (p.resolve_left e)).atR _ _ _ _ hr⟩
theorem RowV.congr {P' : Nat → Prop} {q' : Nat → Rat} {K' : Nat → Nat} (h : RowV w g n P q K) (hP : ∀ j, j < n → P' j → P j ∧ q j = q' j ∧ K j ≤ K' j) : RowV w g n P' q' K' :=
  ⟨fun j hj => by
    obtain ⟨s, a, m, c, t, a2, m2, c2, hr, hv⟩ := h.cell j hj
    exact ⟨s, a, m, c, t, a2, m2, c2, hr, fun p => by rw [← (hP j hj p).2.1]; exact (hv (hP j hj p).1).le (hP j hj p).2.2⟩, h.f, h.lt⟩
theorem RowV.far4 {b o : Nat} {s t : Bool} {a a2 : Option Addr} {m c m2 c2 : Nat} (h : RowV w g n P q K) (u0 u1 u2 u3 : Value)
    (hr : Rd4 w b o (.bool s) (.slice a m c) (.bool t) (.slice a2 m2 c2)) (hne : b ≠ g) : RowV (st4 w b o u0 u1 u2 u3) g n P q K :=
  ⟨fun j hj => by
    obtain ⟨s', a', m', c', t', a2', m2', c2', h1, h2⟩ := h.cell j hj
    exact ⟨s', a', m', c', t', a2', m2', c2', h1.far _ _ _ _ hne, fun p => (h2 p).atR _ _ _ _ hr⟩,
   fun o' => by rw [frozen_st4]; exact h.f o', by rw [size_st4]; exact h.lt⟩
theorem RowV.storeFar {b o : Nat} (h : RowV w g n P q K) (u : Value) {v0 : Value} (hp : w.cell? ⟨b, o, none⟩ = some v0) (hn : NoInt v0) (hne : b ≠ g) : RowV (w.setCell ⟨b, o, none⟩ u) g n P q K :=
  ⟨fun j hj => by
    obtain ⟨s, a, m, c, t, a2, m2, c2, hr, hv⟩ := h.cell j hj
    exact ⟨s, a, m, c, t, a2, m2, c2, ⟨(far_set _ _ _ _ _ _ hne).trans hr.c0, (far_set _ _ _ _ _ _ hne).trans hr.c1, (far_set _ _ _ _ _ _ hne).trans hr.c2, (far_set _ _ _ _ _ _ hne).trans hr.c3, by simp only [World.setCell, Array.size_modify]; exact hr.lt⟩, fun p => (hv p).store1 u hp hn⟩,
   fun o' => by rw [World.frozen?_setCell]; exact h.f o', by simp only [World.setCell, Array.size_modify]; exact h.lt⟩
theorem RowV.kept {v : Value} (h : RowV w g n P q K) (hk : KindZ w v) (hg : w.grownBy w' v.ownBlock) (hne : some g ≠ v.ownBlock) : RowV w' g n P q K :=
  ⟨fun j hj => by
    obtain ⟨s, a, m, c, t, a2, m2, c2, hr, hv⟩ := h.cell j hj
    exact ⟨s, a, m, c, t, a2, m2, c2, rd4_keep hr hg hne, fun p => (hv p).keep hk hg⟩,
   fun o' => (World.frozen?_of_block (hg.block g h.lt hne)).trans (h.f o'), Nat.lt_of_lt_of_le h.lt hg.size⟩
theorem RowV.made (w : World) (n : Nat) (q : Nat → Rat) (K : Nat → Nat) : RowV (w.alloc (.cells (madeCells zR (n * 4)) 40)) w.heap.size n (fun _ => False) q K := by
  have h : (w.alloc (.cells (madeCells zR (n * 4)) 40)).rowIs w.heap.size 40 (n * 4) (repR zero4 0) :=
    ⟨madeCells zR (n * 4), by unfold World.alloc; simp, size_madeCells _ _, fun i hi => by rw [made_zero4 _ _ hi]; unfold repR; rw [if_neg (by omega)]⟩
  have e : ∀ j r, r < 4 → j < n → repR zero4 0 (j * 4 + r) = pat4 (.bool false) (.slice none 0 0) (.bool false) (.slice none 0 0) r := fun j r hr hj => by
    unfold repR; rw [if_neg (by omega)]; unfold zero4 pat4; rw [show (j * 4 + r) % 4 = r % 4 by omega]
  refine ⟨fun j hj => ⟨false, none, 0, 0, false, none, 0, 0, ⟨?_, ?_, ?_, ?_, h.lt⟩, fun p => p.elim⟩, fun o => h.frozen o, h.lt⟩
  · rw [h.cell (i := j * 4) (by omega)]; congr 1; exact e j 0 (by omega) hj
  · rw [h.cell (i := j * 4 + 1) (by omega)]; congr 1; exact e j 1 (by omega) hj
  · rw [h.cell (i := j * 4 + 2) (by omega)]; congr 1; exact e j 2 (by omega) hj
  · rw [h.cell (i := j * 4 + 3) (by omega)]; congr 1; exact e j 3 (by omega) hj
end
/-- a matrix of k rows: their headers in block g, row i in block rb i; all of it at or above block B -/
structure QMat (w : World) (B g k cols : Nat) (rb rc : Nat → Nat) (Q : Nat → Nat → Rat) (K : Nat → Nat → Nat) : Prop where
  hdr : ∀ i, i < k → w.cell? ⟨g, i, none⟩ = some (.slice (some ⟨rb i, 0, none⟩) cols (rc i))
  hf : ∀ o, w.frozen? ⟨g, o, none⟩ = false
  gB : B ≤ g
  gl : g < w.heap.size
  row : ∀ i, i < k → RowV w (rb i) cols (fun _ => True) (Q i) (K i)
  rB : ∀ i, i < k → B ≤ rb i
  ne : ∀ i, i < k → rb i ≠ g
  apart : ∀ i j, i < k → j < k → i ≠ j → rb i ≠ rb j
def updK (K : Nat → Nat → Nat) (i j x : Nat) (r c : Nat) : Nat := if r = i ∧ c = j then x else K r c
section
variable {w w' : World} {B g k cols B' : Nat} {rb rc : Nat → Nat} {Q : Nat → Nat → Rat} {K : Nat → Nat → Nat}
theorem QMat.below (h : QMat w B g k cols rb rc Q K) (hb : Below B' w w') (hB : w.heap.size ≤ B') : QMat w' B g k cols rb rc Q K :=
  ⟨fun i hi => bel1 hb (h.hdr i hi) (Nat.lt_of_lt_of_le h.gl hB), fun o => (hb.frozen (p := ⟨g, o, none⟩) (Nat.lt_of_lt_of_le h.gl hB)).trans (h.hf o), h.gB, Nat.lt_of_lt_of_le h.gl hb.size,
   fun i hi => (h.row i hi).below hb hB, h.rB, h.ne, h.apart⟩
theorem QMat.drew (h : QMat w B g k cols rb rc Q K) : QMat w.drew B g k cols rb rc Q K := h.below ((Drawn.of w 1).below w.heap.size) (Nat.le_refl _)
theorem QMat.congr {Q' : Nat → Nat → Rat} {K' : Nat → Nat → Nat} (h : QMat w B g k cols rb rc Q K) (e : ∀ i j, i < k → j < cols → Q i j = Q' i j ∧ K i j ≤ K' i j) : QMat w B g k cols rb rc Q' K' :=
  ⟨h.hdr, h.hf, h.gB, h.gl, fun i hi => (h.row i hi).congr (fun j hj _ => ⟨trivial, e i j hi hj⟩), h.rB, h.ne, h.apart⟩
theorem QMat.set {i j k' : Nat} {x : Rat} {s t : Bool} {a a2 : Option Addr} {m c m2 c2 : Nat} (h : QMat w B g k cols rb rc Q K) (hi : i < k) (hj : j < cols)
    (hx : QV w (.agg #[.bool s, .slice a m c, .bool t, .slice a2 m2 c2]) x k') :
    QMat (st4 w (rb i) (j * 4) (.bool s) (.slice a m c) (.bool t) (.slice a2 m2 c2)) B g k cols rb rc (updM Q i j x) (updK K i j k') := by
  obtain ⟨s', a', m', c', t', a2', m2', c2', hr, _⟩ := (h.row i hi).cell j hj
  refine ⟨fun r hr2 => (Go.Proofs.YtgmopcncbpdniaaGreat.far4 _ _ _ _ (h.ne i hi)).trans (h.hdr r hr2), fun o => by rw [frozen_st4]; exact h.hf o, h.gB, by rw [size_st4]; exact h.gl, fun r hr2 => ?_, h.rB, h.ne, h.apart⟩
  by_cases e : r = i
  · subst e
    refine ((h.row r hr2).set hj rfl hx).congr (fun l hl _ => ?_)
    by_cases e2 : l = j
    · exact ⟨.inl e2, by simp [updQ, updM, e2], by simp [updN, updK, e2]⟩
    · exact ⟨.inr trivial, by simp [updQ, updM, e2], by simp [updN, updK, e2]⟩
  · refine ((h.row r hr2).far4 _ _ _ _ hr (h.apart i r hi hr2 (fun q => e q.symm))).congr (fun l hl _ => ⟨trivial, ?_, ?_⟩)
    · simp [updM, e]
    · simp [updK, e]
theorem QMat.at_ (h : QMat w B g k cols rb rc Q K) {i j : Nat} (hi : i < k) (hj : j < cols) :
    ∃ s a m c t a2 m2 c2, Rd4 w (rb i) (j * 4) (.bool s) (.slice a m c) (.bool t) (.slice a2 m2 c2) ∧ QV w (.agg #[.bool s, .slice a m c, .bool t, .slice a2 m2 c2]) (Q i j) (K i j) := by
  obtain ⟨s, a, m, c, t, a2, m2, c2, h1, h2⟩ := (h.row i hi).cell j hj
  exact ⟨s, a, m, c, t, a2, m2, c2, h1, h2 trivial⟩
/-- indices c and a changed about -/
def swI (c a i : Nat) : Nat := if i = c then a else if i = a then c else i
theorem swI_lt {c a i n : Nat} (hc : c < n) (ha : a < n) (hi : i < n) : swI c a i < n := by
  unfold swI
  by_cases e : i = c
  · rw [if_pos e]; exact ha
  · rw [if_neg e]
    by_cases e' : i = a
    · rw [if_pos e']; exact hc
    · rw [if_neg e']; exact hi
theorem swI_inj {c a i j : Nat} (h : swI c a i = swI c a j) : i = j := by
  unfold swI at h
  split at h <;> split at h <;> (try split at h) <;> (try split at h) <;> omega
/-- two rows changed about by their headers -/
theorem QMat.swap {c a : Nat} (h : QMat w B g k cols rb rc Q K) (hc : c < k) (ha : a < k) :
    QMat ((w.setCell ⟨g, c, none⟩ (.slice (some ⟨rb a, 0, none⟩) cols (rc a))).setCell ⟨g, a, none⟩ (.slice (some ⟨rb c, 0, none⟩) cols (rc c))) B g k cols (fun i => rb (swI c a i)) (fun i => rc (swI c a i)) (fun i => Q (swI c a i)) (fun i => K (swI c a i)) := by
  have hr : ∀ i, i < k → RowV ((w.setCell ⟨g, c, none⟩ (.slice (some ⟨rb a, 0, none⟩) cols (rc a))).setCell ⟨g, a, none⟩ (.slice (some ⟨rb c, 0, none⟩) cols (rc c))) (rb i) cols (fun _ => True) (Q i) (K i) := fun i hi => by
    have h1 := (h.row i hi).storeFar (.slice (some ⟨rb a, 0, none⟩) cols (rc a)) (h.hdr c hc) (noInt_slice _ _ _) (fun e => h.ne i hi e.symm)
    by_cases e : c = a
    · subst e
      exact h1.storeFar _ (self_set (h.hdr c hc)) (noInt_slice _ _ _) (fun e => h.ne i hi e.symm)
    · exact h1.storeFar _ (off_set (by omega) (h.hdr a ha)) (noInt_slice _ _ _) (fun e => h.ne i hi e.symm)
  refine ⟨fun i hi => ?_, fun o => by rw [World.frozen?_setCell, World.frozen?_setCell]; exact h.hf o, h.gB, by simp only [World.setCell, Array.size_modify]; exact h.gl, fun i hi => hr _ (swI_lt hc ha hi), fun i hi => h.rB _ (swI_lt hc ha hi), fun i hi => h.ne _ (swI_lt hc ha hi), fun i j hi hj hij => h.apart _ _ (swI_lt hc ha hi) (swI_lt hc ha hj) (fun e => hij (swI_inj e))⟩
  by_cases e1 : i = a
  · subst e1
    have e2 : swI c i i = c := by unfold swI; by_cases e : i = c <;> simp [e]
    rw [e2]
    by_cases e : c = i
    · subst e; exact self_set (self_set (h.hdr c hc))
    · exact self_set (off_set (by omega) (h.hdr i hi))
  · refine off_set (by omega) ?_
    by_cases e2 : i = c
    · subst e2
      have e3 : swI i a i = a := by unfold swI; simp
      rw [e3]; exact self_set (h.hdr i hi)
    · have e3 : swI c a i = i := by unfold swI; simp [e1, e2]
      rw [e3]; exact off_set (by omega) (h.hdr i hi)
end
end Go.Proofs.YtgmopcncbpdniaaGreat
