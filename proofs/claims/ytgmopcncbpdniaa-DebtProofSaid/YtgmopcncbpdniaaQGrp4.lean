/- debt.Groups of the example of lives(). -/
import Derived.Test.YtgmopcncbpdniaaQGrp3
import Derived.Maps.AppendAt
set_option linter.unusedVariables false
set_option linter.unusedSimpArgs false
namespace Go.Proofs.Ytgmopcncbpdniaa
open Go.RowKit
attribute [local go_sem ↓] Go.wp_at_zero Go.wp_at_succ

theorem mem3 : mem 3 10 = [0, 1] := by decide +kernel
theorem mem28 : mem 28 10 = [2, 3, 4] := by decide +kernel
theorem bal_ok : Balances 5 blF := ⟨by decide, by decide, by decide +kernel, by decide +kernel⟩
def g0F (i : Nat) : Int := i
def g1F (i : Nat) : Int := (i : Int) + 2

theorem members3 (w : World) : Calls Try.prog 44 #[.int .i64 3] w fun e w' => ∃ g cap, e = .returned (.slice (some ⟨g, 0, none⟩) 2 cap) ∧ IsSl w' (some ⟨g, 0, none⟩) g 0 cap 2 (ic g0F) ∧ w.heap.size ≤ g ∧ Below w.heap.size w w' := by
  have h := members_row 3 w (by omega) (by rw [mem3]; decide)
  refine Calls.mono (show Calls Try.prog 44 #[.int .i64 3] w _ from h) ?_
  rintro e w' ⟨g, cap, he, hs, hg, hb⟩
  rw [mem3] at he hs
  exact ⟨g, cap, he, hs.congr (fun i hi => by
    have hi : i < 2 := hi
    have : i = 0 ∨ i = 1 := by omega
    rcases this with e | e <;> rw [e] <;> rfl), hg, hb⟩
theorem members28 (w : World) : Calls Try.prog 44 #[.int .i64 28] w fun e w' => ∃ g cap, e = .returned (.slice (some ⟨g, 0, none⟩) 3 cap) ∧ IsSl w' (some ⟨g, 0, none⟩) g 0 cap 3 (ic g1F) ∧ w.heap.size ≤ g ∧ Below w.heap.size w w' := by
  have h := members_row 28 w (by omega) (by rw [mem28]; decide)
  refine Calls.mono (show Calls Try.prog 44 #[.int .i64 28] w _ from h) ?_
  rintro e w' ⟨g, cap, he, hs, hg, hb⟩
  rw [mem28] at he hs
  exact ⟨g, cap, he, hs.congr (fun i hi => by
    have hi : i < 3 := hi
    have : i = 0 ∨ i = 1 ∨ i = 2 := by omega
    rcases this with e | e | e <;> rw [e] <;> rfl), hg, hb⟩

def gvI (q : Nat) : Int := if q = 0 then 3 else 28
def gl (q : Nat) : Nat := if q = 0 then 2 else 3
def gF (q : Nat) : Nat → Int := if q = 0 then g0F else g1F
theorem members_q (q : Nat) (hq : q < 2) (w : World) : Calls Try.prog 44 #[.int .i64 (gvI q)] w fun e w' => ∃ g cap, e = .returned (.slice (some ⟨g, 0, none⟩) (gl q) cap) ∧ IsSl w' (some ⟨g, 0, none⟩) g 0 cap (gl q) (ic (gF q)) ∧ w.heap.size ≤ g ∧ Below w.heap.size w w' := by
  have : q = 0 ∨ q = 1 := by omega
  rcases this with e | e
  · subst e; exact members3 w
  · subst e; exact members28 w
def gCells (gg cc : Nat → Nat) (q : Nat) : List Value := (List.range q).map (fun i => .slice (some ⟨gg i, 0, none⟩) (gl i) (cc i))
def setQ (f : Nat → Nat) (i x : Nat) : Nat → Nat := fun j => if j = i then x else f j
theorem gCells_succ (gg cc : Nat → Nat) (q g cap : Nat) : gCells gg cc q ++ [.slice (some ⟨g, 0, none⟩) (gl q) cap] = gCells (setQ gg q g) (setQ cc q cap) (q + 1) := by
  unfold gCells
  rw [List.range_succ, List.map_append]
  congr 1
  · apply List.map_congr_left
    intro i hi
    have : i < q := List.mem_range.1 hi
    simp [setQ, show i ≠ q by omega]
  · simp [setQ]
theorem gCells_get (gg cc : Nat → Nat) (q i : Nat) (h : i < q) : (gCells gg cc q)[i]? = some (.slice (some ⟨gg i, 0, none⟩) (gl i) (cc i)) := by simp [gCells, h]
/-- the groups gathered so far -/
structure GR (B : Nat) (w : World) (q : Nat) (v : Value) (gg cc : Nat → Nat) : Prop where
  own : w.ownsRow B 23 1 v q (gCells gg cc q)
  row : ∀ i, i < q → IsSl w (some ⟨gg i, 0, none⟩) (gg i) 0 (cc i) (gl i) (ic (gF i))
  far : ∀ i, i < q → v.ownBlock ≠ some (gg i)
theorem own_kept {B : Nat} {e : TypeId} {k : Nat} {v : Value} {n : Nat} {xs : List Value} {w w' : World} (h : w.ownsRow B e k v n xs) (hb : Below w.heap.size w w') : w'.ownsRow B e k v n xs :=
  h.kept (row := none) ⟨hb.os, hb.tape, hb.output, hb.size, fun j hj _ => hb.block j hj⟩ (by cases hv : v.ownBlock <;> simp)
theorem gl_pos (q : Nat) : 0 < gl q := by unfold gl; split <;> omega
theorem IsSl.grownO {w w' : World} {a : Option Addr} {b o c n : Nat} {row : Option Nat} {q : Nat → Value} (h : IsSl w a b o c n q) (hg : w.grownBy w' row) (hne : some b ≠ row) : IsSl w' a b o c n q where
  cap := h.cap
  nc := h.nc
  at_ := h.at_
  lt := fun p => Nat.lt_of_lt_of_le (h.lt p) hg.size
  cell := fun i hi => hg.cell (h.cell i hi) hne

set_option maxHeartbeats 4000000 in
set_option maxRecDepth 100000 in
theorem Groups_live (v : Value) (w : World) (hv : Ints w v 5 blF) :
    Calls Try.prog 26 #[v] w fun e w' => ∃ vg, e = .returned (.tuple #[vg, .int .i64 0]) ∧ Mat w' vg 2 (fun i => if i = 0 then 2 else 3) (fun i => if i = 0 then g0F else g1F) ∧ Below w.heap.size w w' := by
  have HV := Lib.hid hv
  clear hv
  go_enter Try.func26, Try.ntmps26
  go_wp2_with (first
    | (go_at_call 42; (with_reducible refine (balanced_any v 5 blF true ⟨fun _ => bal_ok, fun _ => rfl⟩ _ HV.out (by omega)).mono ?_); rintro e w1 ⟨rfl, rfl⟩)
    | (go_at_call 43; (with_reducible refine (groups_live v _ HV.out).mono ?_); rintro e w1 ⟨va, vk, rfl, ⟨a, b, o, c, hvv, hs⟩, hb⟩; cases hvv; have HS := Lib.hid hs; have KW := Lib.hid hb; clear hs hb))
  obtain ⟨i0, hinf, hz0, hz1, hz2⟩ := info_parts infoIs
  have KW0 := Lib.hid (Below.refl w1.heap.size w1)
  have HS : Hid (IsSl w1 va b o vk 2 (ic gvI)) := Lib.hid (HS.out.congr fun i hi => by
    have : i = 0 ∨ i = 1 := by omega
    rcases this with e | e <;> rw [e] <;> rfl)
  have hwl : va = some ⟨b, o, none⟩ := HS.out.at_ (by omega)
  go_loopw [4, 13] (fun v4 v13 wr => ∃ q : Nat, q ≤ 2 ∧ v13 = .int .i64 (q : Nat) ∧ ∃ va4 vk4 gg cc, v4 = .slice va4 q vk4 ∧ Hid (GR w1.heap.size wr q (.slice va4 q vk4) gg cc) ∧ Hid (Below w1.heap.size w1 wr)) (fun _ v13 _ => 2 - (intOf v13).toNat)
  case atStart => exact ⟨0, by omega, rfl, none, 0, fun _ => 0, fun _ => 0, rfl, Lib.hid ⟨World.ownsRow_nil _ _ _ _, fun i e => by omega, fun i e => by omega⟩, KW0⟩
  case round =>
    have KWW := KW
    clear KW0 KW
    obtain ⟨q, hq, rfl, va4, vk4, gg, cc, rfl, G, KW⟩ := hrel
    by_cases h : q < 2
    · have hix := fun W => ixI HS.out q vk h W
      have hc := (HS.out.mono KW.out (Nat.le_refl _)).cell q h
      simp only [ic] at hc
      have gq : (q : Int) < 2 := by omega
      have HLT := Lib.hid G.out.own.lt
      have HROW := Lib.hid G.out.row
      have HFAR := Lib.hid G.out.far
      have OW := Lib.hid G.out.own
      clear hwl
      go_wp2_with (first
        | (go_at_call 44; (with_reducible refine (members_q q h _).mono ?_); rintro e w2 ⟨g, cap, rfl, hsl, hg, hb⟩; have SL := Lib.hid hsl; have KW2 := Lib.hid (KW.out.trans (hb.mono KW.out.size)); have HG := Lib.hid hg; have HB := Lib.hid hb; have OW := Lib.hid (own_kept OW.out hb); clear hsl hb hg)
        | (at_builtin; refine wpList_append_own_at _ rfl (.tmp 17) (.tmp 20) 24 rfl w1.heap.size 23 i0 (.slice none 0 0) 1 24 Try.underlying24 hinf hz0 hz1 hz2 rfl (by decide) (.slice va4 q vk4) q (gCells gg cc q) rfl (OW.out.alloc _) ⟨w2.heap.size, 0, none⟩ 1 1 [.slice (some ⟨g, 0, none⟩) (gl q) cap] rfl rfl (new1 w2 (.slice (some ⟨g, 0, none⟩) (gl q) cap) 23) (one1 _ rfl) (by unfold maxLen; omega) (by omega) (by have := KW2.out.size; simp; omega) ?_; intro v' w5 hown hgrow _ hbk; have HOWN := Lib.hid hown; have HGROW := Lib.hid hgrow; have HBK := Lib.hid hbk; obtain ⟨va5, vk5, rfl⟩ := own_shape hown; clear hown hgrow hbk))
      go_roundw
      case rel =>
        have hgl : g < w2.heap.size := SL.out.lt (gl_pos q)
        have hsz : wr.heap.size ≤ w2.heap.size := HB.out.size
        refine ⟨q + 1, by omega, by go_num, va5, vk5, setQ gg q g, setQ cc q cap, rfl, Lib.hid ⟨?_, fun i hi => ?_, fun i hi => ?_⟩, Lib.hid ?_⟩
        · rw [← gCells_succ]; exact HOWN.out
        · by_cases e : i = q
          · subst e
            have h1 : setQ gg i g i = g := by simp [setQ]
            have h2 : setQ cc i cap i = cap := by simp [setQ]
            rw [h1, h2]
            exact (SL.out.alloc _).grownO HGROW.out (fun e => by have := (HLT.out g e.symm).2; have := HG.out; omega)
          · have h1 : setQ gg q g i = gg i := by simp [setQ, e]
            have h2 : setQ cc q cap i = cc i := by simp [setQ, e]
            rw [h1, h2]
            exact (((HROW.out i (by omega)).mono HB.out (Nat.le_refl _)).alloc _).grownO HGROW.out (fun e2 => HFAR.out i (by omega) e2.symm)
        · by_cases e : i = q
          · subst e
            have h1 : setQ gg i g i = g := by simp [setQ]
            rw [h1]
            rcases HBK.out with h3 | h3
            · rw [h3]; intro e2; have := (HLT.out g e2).2; have := HG.out; omega
            · rw [h3]; intro e2; have := Option.some.inj e2; simp at this; omega
          · have h1 : setQ gg q g i = gg i := by simp [setQ, e]
            rw [h1]
            have hgi := (HROW.out i (by omega)).lt (gl_pos i)
            rcases HBK.out with h3 | h3
            · rw [h3]; exact HFAR.out i (by omega)
            · rw [h3]; intro e2; have := Option.some.inj e2; simp at this; omega
        · exact (KW2.out.alloc KW2.out.size _).grown HGROW.out (by have := KW2.out.size; simp; omega) (fun kk e => (HLT.out kk e).1)
      case measure => simp [intOf]; omega
    · obtain rfl : q = 2 := by omega
      go_wp2
      go_ret2
      obtain ⟨a4, b4, o4, c4, hv4, hs4⟩ := Sl.of_own G.out.own (fun i hi => gCells_get gg cc 2 i hi)
      refine ⟨_, rfl, ⟨a4, b4, o4, c4, fun i => some ⟨gg i, 0, none⟩, gg, fun _ => 0, cc, hv4, ⟨hs4, fun i hi => ?_⟩⟩, KWW.out.trans (KW.out.mono KWW.out.size)⟩
      have hr := G.out.row i hi
      have : i = 0 ∨ i = 1 := by omega
      rcases this with e | e <;> subst e <;> exact hr

end Go.Proofs.Ytgmopcncbpdniaa
