/- cut and rows of the laws. -/
import Derived.Test.YtgmopcncbpdniaaQGrp4
set_option linter.unusedVariables false
set_option linter.unusedSimpArgs false
namespace Go.Proofs.Ytgmopcncbpdniaa
open Go.RowKit

theorem add_at (b o j : Nat) : (⟨b, o, none⟩ : Addr).add j = ⟨b, o + j, none⟩ := by unfold Addr.add; split <;> simp_all
theorem news_of {w : World} {a : Option Addr} {b o c n : Nat} {f : Nat → Int} (h : IsSl w a b o c n (ic f)) (k : Nat) (hk : k ≤ n) : ∀ j u, (ics f k)[j]? = some u → w.cell? ((⟨b, o, none⟩ : Addr).add j) = some u := fun j u hj => by
  have hjk : j < k := by
    have := (List.getElem?_eq_some_iff.1 hj).1
    rw [ics_length] at this; exact this
  rw [ics_get f k j hjk] at hj
  rw [add_at, h.cell j (by omega)]; exact hj

set_option maxHeartbeats 4000000 in
set_option maxRecDepth 100000 in
theorem cut_any (v : Value) (n : Nat) (f : Nat → Int) (w : World) (hv : Ints w v n f) (hn : n ≤ 9223372036854775807) :
    Calls Try.prog 18 #[v, .int .i64 9] w fun e w' => ∃ va vk, e = .returned (.slice va (min n 9) vk) ∧ w'.ownsRow w.heap.size 3 1 (.slice va (min n 9) vk) (min n 9) (ics f (min n 9)) ∧ Below w.heap.size w w' := by
  obtain ⟨a, b, o, c, rfl, hs⟩ := hv
  obtain ⟨i0, hinf, hz0, hz1, hz2⟩ := info_parts infoI
  have hz := sliced_zero
  have hc := hs.cap
  obtain ⟨k, hk⟩ : ∃ k, k = min n 9 := ⟨_, rfl⟩
  rw [← hk]
  have hkn : k ≤ n := by omega
  have hk9 : k ≤ 9 := by omega
  have hkc : k ≤ c := by omega
  have hmin : min (n : Int) 9 = (k : Int) := by omega
  have KW := Lib.hid ((Below.refl w.heap.size w).alloc (Nat.le_refl _) (.cells #[] 3))
  have hown0 : (w.alloc (.cells #[] 3)).ownsRow w.heap.size 3 1 (.slice (some ⟨w.heap.size, 0, none⟩) 0 0) 0 [] := World.ownsRow_made w #[] 0 (Nat.le_refl _) (by unfold maxLen; omega) rfl
  have OW := Lib.hid hown0
  have HM := Lib.hid hmin
  clear hown0
  by_cases h0 : 0 < n
  · obtain rfl := hs.at_ h0
    have HS := Lib.hid (hs.alloc (.cells #[] 3))
    have HONE := Lib.hid (ics_one f k)
    have HLEN := Lib.hid (show (ics f k).length = k * 1 by rw [ics_length]; omega)
    have HNW := Lib.hid (news_of HS.out k hkn)
    clear hk hs
    go_enter Try.func18, Try.ntmps18
    go_wp2_with (at_builtin; refine wpList_append_own _ rfl (.tmp 5) (.tmp 11) 23 rfl w.heap.size 3 i0 (.int .i64 0) 1 8 Try.underlying23 hinf hz0 hz1 hz2 rfl (by decide) (.slice (some ⟨w.heap.size, 0, none⟩) 0 0) 0 [] rfl OW.out ⟨b, o, none⟩ k c (ics f k) rfl HLEN.out HNW.out HONE.out (by unfold maxLen; omega) (by omega) (by simp) ?_; intro v' w3 hown hgrow _; have KW := Lib.hid (KW.out.grown hgrow (by simp) (fun kk e => by cases e; exact Nat.le_refl _)); have HOWN := Lib.hid hown; clear hown hgrow)
    go_ret
    have hown := HOWN.out
    rw [Nat.zero_add, List.nil_append] at hown
    obtain ⟨va, vk, rfl⟩ := own_shape hown
    exact ⟨va, vk, rfl, hown, KW.out⟩
  · obtain rfl : n = 0 := by omega
    obtain rfl : k = 0 := by omega
    have hlast : ∀ w3 v', w3.ownsRow w.heap.size 3 1 v' 0 [] → Below w.heap.size w w3 → ∃ va vk, Ending.returned v' = .returned (.slice va 0 vk) ∧ w3.ownsRow w.heap.size 3 1 (.slice va 0 vk) 0 (ics f 0) ∧ Below w.heap.size w w3 := fun w3 v' ho hb => by
      obtain ⟨va, vk, rfl⟩ := own_shape ho
      exact ⟨va, vk, rfl, ho, hb⟩
    rcases a with _ | ad
    · obtain rfl := hs.nc rfl
      clear hk hs hlast
      go_enter Try.func18, Try.ntmps18
      go_wp2_with (at_builtin; refine wpList_append_own_none rfl (.tmp 5) (.tmp 11) 23 rfl w.heap.size 3 i0 1 Try.underlying23 hinf (.slice (some ⟨w.heap.size, 0, none⟩) 0 0) 0 [] rfl OW.out rfl ?_)
      go_ret
      exact ⟨_, _, rfl, OW.out, KW.out⟩
    · clear hk hs
      have HLAST := Lib.hid hlast
      clear hlast
      go_enter Try.func18, Try.ntmps18
      go_wp2_with (at_builtin; refine wpList_append_own _ rfl (.tmp 5) (.tmp 11) 23 rfl w.heap.size 3 i0 (.int .i64 0) 1 8 Try.underlying23 hinf hz0 hz1 hz2 rfl (by decide) (.slice (some ⟨w.heap.size, 0, none⟩) 0 0) 0 [] rfl OW.out ad 0 c [] rfl rfl (fun j u h => by simp at h) (fun u h => by simp at h) (by unfold maxLen; omega) (by omega) (by simp) ?_; intro v' w3 hown hgrow _; have KW := Lib.hid (KW.out.grown hgrow (by simp) (fun kk e => by cases e; exact Nat.le_refl _)); have HOWN := Lib.hid hown; clear hown hgrow)
      go_ret
      exact HLAST.out _ _ HOWN.out KW.out

end Go.Proofs.Ytgmopcncbpdniaa

/- rows of the laws: a matrix gathered row by row. -/
set_option linter.unusedVariables false
set_option linter.unusedSimpArgs false
namespace Go.Proofs.Ytgmopcncbpdniaa
open Go.RowKit

theorem infoM : (Try.prog.info? 23).map (fun i => (i.zero, i.size, i.bytes)) = some (some (.slice none 0 0), 1, 24) := by kernel_rfl
def blk (a : Option Addr) : Option Nat := a.map Addr.block
theorem ownBlock_blk (a : Option Addr) (n c : Nat) : (Value.slice a n c).ownBlock = blk a := by cases a <;> rfl
theorem own_base {w : World} {B B' : Nat} {e : TypeId} {s n : Nat} {v : Value} {xs : List Value} (h : w.ownsRow B' e s v n xs) (hB : B ≤ B') : w.ownsRow B e s v n xs := by
  obtain ⟨h1, h2⟩ := h
  refine ⟨h1, ?_⟩
  rcases h2 with h2 | ⟨g, cap, cur, e1, e2, e3⟩
  · exact .inl h2
  · exact .inr ⟨g, cap, cur, e1, Nat.le_trans hB e2, e3⟩
/-- the rows' headers, as cells -/
def rowCells (ra : Nat → Option Addr) (m rc : Nat → Nat) (q : Nat) : List Value := (List.range q).map (fun i => .slice (ra i) (m i) (rc i))
theorem rowCells_get (ra : Nat → Option Addr) (m rc : Nat → Nat) (q i : Nat) (h : i < q) : (rowCells ra m rc q)[i]? = some (.slice (ra i) (m i) (rc i)) := by simp [rowCells, h]
theorem rowCells_succ (ra : Nat → Option Addr) (m rc : Nat → Nat) (q : Nat) (a : Option Addr) (c : Nat) : rowCells ra m rc q ++ [.slice a (m q) c] = rowCells (setN ra q a) m (setN rc q c) (q + 1) := by
  unfold rowCells
  rw [List.range_succ, List.map_append]
  congr 1
  · apply List.map_congr_left
    intro i hi
    have : i < q := List.mem_range.1 hi
    rw [setN_ne _ _ (by omega), setN_ne _ _ (by omega)]
  · simp [setN_self]
/-- the rows gathered so far, each in memory of its own -/
structure RowsIn (B : Nat) (w : World) (q : Nat) (v : Value) (ra : Nat → Option Addr) (rc m : Nat → Nat) (f : Nat → Nat → Int) : Prop where
  own : w.ownsRow B 23 1 v q (rowCells ra m rc q)
  row : ∀ i, i < q → w.ownsRow B 3 1 (.slice (ra i) (m i) (rc i)) (m i) (ics (f i) (m i))
  far : ∀ i g, i < q → blk (ra i) = some g → v.ownBlock ≠ some g
  apart : ∀ i j g, i < j → j < q → blk (ra i) = some g → blk (ra j) ≠ some g

theorem RowsIn.start {B : Nat} {w : World} {v : Value} {m : Nat → Nat} {f : Nat → Nat → Int} (h : w.ownsRow B 23 1 v 0 []) : RowsIn B w 0 v (fun _ => none) (fun _ => 0) m f :=
  ⟨h, fun i h => by omega, fun i g h => by omega, fun i j g _ h => by omega⟩

theorem RowsIn.push {B : Nat} {w w2 w5 : World} {q : Nat} {v v' : Value} {ra : Nat → Option Addr} {rc m : Nat → Nat} {f : Nat → Nat → Int} (G : RowsIn B w q v ra rc m f) {a : Option Addr} {c : Nat} (hB : B ≤ w.heap.size)
    (hb : Below w.heap.size w w2) (hs : w2.ownsRow w.heap.size 3 1 (.slice a (m q) c) (m q) (ics (f q) (m q))) (ob : Obj) (hgrow : (w2.alloc ob).grownBy w5 v.ownBlock)
    (hbk : v'.ownBlock = v.ownBlock ∨ v'.ownBlock = some (w2.alloc ob).heap.size) (hown : w5.ownsRow B 23 1 v' (q + 1) (rowCells ra m rc q ++ [.slice a (m q) c])) :
    RowsIn B w5 (q + 1) v' (setN ra q a) (setN rc q c) m f := by
  have hlt : ∀ i g, i < q → blk (ra i) = some g → g < w.heap.size := fun i g hi e => ((G.row i hi).lt g (by rw [ownBlock_blk]; exact e)).2
  have hnew : ∀ g, blk a = some g → w.heap.size ≤ g ∧ g < w2.heap.size := fun g e => hs.lt g (by rw [ownBlock_blk]; exact e)
  have hv : ∀ g, v.ownBlock = some g → g < w.heap.size := fun g e => (G.own.lt g e).2
  have hsz := hb.size
  have hal : (w2.alloc ob).heap.size = w2.heap.size + 1 := by simp
  have hv' : ∀ g, v'.ownBlock = some g → g < w.heap.size ∧ v.ownBlock = some g ∨ g = w2.heap.size + 1 := fun g e => by
    rcases hbk with h | h
    · left; exact ⟨hv g (by rw [← h]; exact e), by rw [← h]; exact e⟩
    · right; rw [h, hal] at e; exact (Option.some.inj e).symm
  refine ⟨by rw [← rowCells_succ]; exact hown, fun i hi => ?_, fun i g hi e e2 => ?_, fun i j g hij hj e e2 => ?_⟩
  · by_cases h : i = q
    · subst h
      rw [setN_self, setN_self]
      refine ((own_base hs hB).alloc ob).kept hgrow ?_
      rw [ownBlock_blk]
      rcases hbb : blk a with _ | g
      · exact .inl rfl
      · right; intro e; have := hv g e.symm; have := hnew g hbb; omega
    · rw [setN_ne _ _ h, setN_ne _ _ h]
      have hi' : i < q := by omega
      refine ((own_kept (G.row i hi') hb).alloc ob).kept hgrow ?_
      rw [ownBlock_blk]
      rcases hbb : blk (ra i) with _ | g
      · exact .inl rfl
      · right; intro e; exact G.far i g hi' hbb e.symm
  · by_cases h : i = q
    · subst h
      rw [setN_self] at e
      have h1 := hnew g e
      rcases hv' g e2 with h2 | h2 <;> omega
    · rw [setN_ne _ _ h] at e
      have hi' : i < q := by omega
      have h1 := hlt i g hi' e
      rcases hv' g e2 with h2 | h2
      · exact G.far i g hi' e h2.2
      · omega
  · have hi : i < q := by omega
    rw [setN_ne _ _ (by omega)] at e
    by_cases h : j = q
    · subst h
      rw [setN_self] at e2
      have h1 := hlt i g hi e
      have h2 := hnew g e2
      omega
    · rw [setN_ne _ _ h] at e2
      exact G.apart i j g hij (by omega) e e2
theorem RowsIn.mat {B : Nat} {w : World} {q : Nat} {v : Value} {ra : Nat → Option Addr} {rc m : Nat → Nat} {f : Nat → Nat → Int} (G : RowsIn B w q v ra rc m f) : Mat w v q m f := by
  obtain ⟨a4, b4, o4, c4, hv4, hs4⟩ := Sl.of_own G.own (fun i hi => rowCells_get ra m rc q i hi)
  have hrow : ∀ i, ∃ p : Nat × Nat, i < q → IsSl w (ra i) p.1 p.2 (rc i) (m i) (ic (f i)) := fun i => by
    by_cases hi : i < q
    · obtain ⟨a, b, o, c, he, hs⟩ := ints_of_own (G.row i hi)
      cases he
      exact ⟨(b, o), fun _ => hs⟩
    · exact ⟨(0, 0), fun h => absurd h hi⟩
  refine ⟨a4, b4, o4, c4, ra, fun i => (Classical.choose (hrow i)).1, fun i => (Classical.choose (hrow i)).2, rc, hv4, ⟨hs4, fun i hi => ?_⟩⟩
  exact Classical.choose_spec (hrow i) hi

/-- the rows' lengths, cut -/
def cutM (m : Nat → Nat) (i : Nat) : Nat := min (m i) 9

set_option maxHeartbeats 4000000 in
set_option maxRecDepth 100000 in
theorem rows_any (v : Value) (n : Nat) (m : Nat → Nat) (f : Nat → Nat → Int) (w : World) (hv : Mat w v n m f) (hn : n ≤ 9223372036854775807) (hm : ∀ i, i < n → m i ≤ 9223372036854775807) :
    Calls Try.prog 13 #[v] w fun e w' => ∃ va vk, e = .returned (.slice va (min n 9) vk) ∧ Mat w' (.slice va (min n 9) vk) (min n 9) (cutM m) f ∧ Below w.heap.size w w' := by
  obtain ⟨a, b, o, c, ra0, rb0, ro0, rc0, rfl, hs⟩ := hv
  have HS := Lib.hid hs
  have HM := Lib.hid hm
  obtain ⟨i0, hinf, hz0, hz1, hz2⟩ := info_parts infoM
  obtain ⟨N, hN⟩ : ∃ N, N = min n 9 := ⟨_, rfl⟩
  rw [← hN]
  have hNn : N ≤ n := by omega
  have hN9 : N ≤ 9 := by omega
  have HN := Lib.hid hN
  have KW0 := Lib.hid ((Below.refl w.heap.size w).alloc (Nat.le_refl _) (.cells #[] 23))
  have G0 := Lib.hid (RowsIn.start (m := cutM m) (f := f) (World.ownsRow_made (e := 23) (base := w.heap.size) (size := 1) w #[] 0 (Nat.le_refl _) (by unfold maxLen; omega) rfl))
  clear hs hm hN
  go_enter Try.func13, Try.ntmps13
  go_wp2
  go_loopw [3, 4] (fun v3 v4 wr => ∃ q : Nat, q ≤ N ∧ v4 = .int .i64 (q : Nat) ∧ ∃ va vk ra rc, v3 = .slice va q vk ∧ Hid (RowsIn w.heap.size wr q (.slice va q vk) ra rc (cutM m) f) ∧ Hid (Below w.heap.size w wr)) (fun _ v4 _ => N - (intOf v4).toNat)
  case atStart => exact ⟨0, by omega, rfl, _, 0, _, _, rfl, G0, KW0⟩
  case round =>
    clear G0 KW0
    obtain ⟨q, hq, rfl, va4, vk4, ra, rc, rfl, G, KW⟩ := hrel
    by_cases h : q < N
    · have hqn : q < n := by omega
      have e1 : decide ((q : Int) < (n : Int)) = true := by simpa using hqn
      have e1n : decide (q < n) = true := by simpa using hqn
      have e2 : decide ((q : Int) ≤ 8) = true := by simp; omega
      have hix := fun W => ixM HS.out.top q c hqn W
      have hc := (HS.out.top.mono KW.out (Nat.le_refl _)).cell q hqn
      have HROW : Hid (Ints wr (.slice (ra0 q) (m q) (rc0 q)) (m q) (f q)) := Lib.hid ⟨_, _, _, _, rfl, (HS.out.row q hqn).mono KW.out (Nat.le_refl _)⟩
      go_wp2_with (first
        | (go_at_call 18; (with_reducible refine (cut_any _ (m q) (f q) _ HROW.out (HM.out q hqn)).mono ?_); rintro e w2 ⟨va2, vk2, rfl, ho2, hb2⟩; have OW2 : Hid (w2.ownsRow wr.heap.size 3 1 (.slice va2 (cutM m q) vk2) (cutM m q) (ics (f q) (cutM m q))) := Lib.hid ho2; have HB2 := Lib.hid hb2; have KW2 := Lib.hid (KW.out.trans (hb2.mono KW.out.size)); have OW := Lib.hid (own_kept G.out.own hb2); clear ho2 hb2)
        | (at_builtin; refine wpList_append_own_at _ rfl (.tmp 16) (.tmp 22) 24 rfl w.heap.size 23 i0 (.slice none 0 0) 1 24 Try.underlying24 hinf hz0 hz1 hz2 rfl (by decide) (.slice va4 q vk4) q (rowCells ra (cutM m) rc q) rfl (OW.out.alloc _) ⟨w2.heap.size, 0, none⟩ 1 1 [.slice va2 (cutM m q) vk2] rfl rfl (new1 w2 (.slice va2 (cutM m q) vk2) 23) (one1 _ rfl) (by unfold maxLen; omega) (by omega) (by have := KW2.out.size; simp; omega) ?_; intro v' w5 hown hgrow _ hbk; have HOWN := Lib.hid hown; have HGROW := Lib.hid hgrow; have HBK := Lib.hid hbk; obtain ⟨va5, vk5, rfl⟩ := own_shape hown; clear hown hgrow hbk))
      go_roundw
      case rel =>
        have G2 := G.out.push KW.out.size HB2.out OW2.out _ HGROW.out HBK.out HOWN.out
        exact ⟨q + 1, by omega, by go_num, va5, vk5, _, _, rfl, Lib.hid G2, Lib.hid ((KW2.out.alloc KW2.out.size _).grown HGROW.out (by have := KW2.out.size; simp; omega) (fun kk e => (G.out.own.lt kk e).1))⟩
      case measure => simp [intOf]; omega
    · obtain rfl : q = N := by omega
      have hlast : RowsIn w.heap.size wr q (.slice va4 q vk4) ra rc (cutM m) f ∧ Below w.heap.size w wr := ⟨G.out, KW.out⟩
      have HL := Lib.hid hlast
      clear hlast
      by_cases h9 : q < n
      · have e1 : decide ((q : Int) < (n : Int)) = true := by simpa using h9
        have e1n : decide (q < n) = true := by simpa using h9
        have e2 : decide ((q : Int) ≤ 8) = false := by have := HN.out; simp; omega
        go_wp2
        go_ret
        exact ⟨_, _, rfl, HL.out.1.mat, HL.out.2⟩
      · have e1 : decide ((q : Int) < (n : Int)) = false := by simpa using h9
        have e1n : decide (q < n) = false := by simpa using h9
        go_wp2
        go_ret
        exact ⟨_, _, rfl, HL.out.1.mat, HL.out.2⟩

end Go.Proofs.Ytgmopcncbpdniaa
