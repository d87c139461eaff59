/- Settle: what it holds while it settles. -/
import Derived.Test.YtcnaagiicpkcpaaGreatMStlA
import Derived.Test.YtcnaagiicpkcpaaGreatMOwnI
import Derived.Lib.SliceRun
import Derived.Shelf.SlSortCmp.NoneTotal
set_option linter.unusedVariables false
set_option linter.unusedSimpArgs false
namespace Go.Proofs.YtcnaagiicpkcpaaGreat
open Go.RowKit
attribute [local go_sem ↓] Go.wp_at_zero Go.wp_at_succ
theorem own_bel {w w' : World} {base B : Nat} {e : TypeId} {k n : Nat} {v : Value} {xs : List Value} (h : w.ownsRow base e k v n xs) (hb : Below B w w') (hl : ∀ g, v.ownBlock = some g → g < B) : w'.ownsRow base e k v n xs := by
 obtain ⟨h1, h2⟩ := h
 refine ⟨h1, ?_⟩
 rcases h2 with h2 | ⟨g, cap, cur, rfl, e2, e3, r⟩
 ·exact .inl h2
 ·exact .inr ⟨g, cap, cur, rfl, e2, by rw [hb.block g (hl g rfl)]; exact e3, r⟩
theorem cell_far {w : World} {b o b' o' : Nat} {u : Value} (h : b' ≠ b) : (w.setCell ⟨b, o, none⟩ u).cell? ⟨b', o', none⟩ = w.cell? ⟨b', o', none⟩ := by
 have e := Below.heap_setCell w ⟨b, o, none⟩ u b' h
 simp only [World.cell?, e]
/-- Settle's variables -/
structure StM (w wr : World) (n lb gl cl Bl hb ck Bo : Nat) (u : Nat → Int) (L : List Nat) (vo : Value) (P : List Pmt) : Prop where
 row : wr.ownsRow w.heap.size 3 1 (.slice (some ⟨gl, 0, none⟩) n cl) n (ics u n)
 box : wr.cell? ⟨lb, 0, none⟩ = some (.slice (some ⟨gl, 0, none⟩) n cl)
 lst : wr.ownsRow Bl 3 1 (.slice (some ⟨hb, 0, none⟩) L.length ck) L.length (intC L)
 out : wr.ownsRow Bo 46 3 vo P.length (payL P)
 lgl : gl < lb
 llb : lb < Bl
 lhb : hb < Bo
 lbo : Bo ≤ wr.heap.size
 below : Below w.heap.size w wr
section
variable {w wr : World} {n lb gl cl Bl hb ck Bo : Nat} {u : Nat → Int} {L : List Nat} {vo : Value} {P : List Pmt}
theorem StM.bl (h : StM w wr n lb gl cl Bl hb ck Bo u L vo P) : Bl ≤ hb := (h.lst.lt hb rfl).1
theorem StM.keep {w' : World} (h : StM w wr n lb gl cl Bl hb ck Bo u L vo P) (hb' : Below wr.heap.size wr w') : StM w w' n lb gl cl Bl hb ck Bo u L vo P :=
 ⟨own_kept h.row hb', (hb'.cell (p := ⟨lb, 0, none⟩) (by have := h.bl; have := h.llb; have := h.lhb; have := h.lbo; show lb < _; omega)).trans h.box, own_kept h.lst hb', own_kept h.out hb', h.lgl, h.llb, h.lhb, Nat.le_trans h.lbo hb'.size, h.below.trans (hb'.mono h.below.size)⟩
theorem StM.set (h : StM w wr n lb gl cl Bl hb ck Bo u L vo P) (i : Nat) (x : Int) : StM w (wr.setCell ⟨gl, i, none⟩ (.int .i64 x)) n lb gl cl Bl hb ck Bo (setN u i x) L vo P := by
 have g1 := h.lgl; have g2 := h.llb; have g3 := h.bl; have g4 := h.lhb
 have g0 := (h.row.lt gl rfl).1
 refine ⟨own_ints_set h.row i x, (cell_far (by omega)).trans h.box, ownsRow_setCell_below h.lst (by show gl < Bl; omega) _, ownsRow_setCell_below h.out (by show gl < Bo; omega) _, g1, g2, g4, ?_, h.below.setCell g0 _⟩
 have := h.lbo
 simp only [World.setCell, Array.size_modify]; exact this
theorem StM.push {w5 : World} {v' : Value} {x : Pmt} (h : StM w wr n lb gl cl Bl hb ck Bo u L vo P) (ob : Obj) (hgrow : (wr.alloc ob).grownBy w5 vo.ownBlock) (hown : w5.ownsRow Bo 46 3 v' (P.length + 1) (payL P ++ payC x)) :
  StM w w5 n lb gl cl Bl hb ck Bo u L v' (P ++ [x]) := by
 have g1 := h.lgl; have g2 := h.llb; have g3 := h.bl; have g4 := h.lhb; have g5 := h.lbo
 have g0 := (h.row.lt gl rfl).1
 have hB : Below Bo wr w5 := ((Below.refl Bo wr).alloc h.lbo ob).grown hgrow (by simp; omega) (fun kk e => (h.out.lt kk e).1)
 refine ⟨own_bel h.row hB (fun g e => ?_), (hB.cell (p := ⟨lb, 0, none⟩) (by show lb < Bo; omega)).trans h.box, own_bel h.lst hB (fun g e => ?_), ?_, g1, g2, g4, Nat.le_trans g5 hB.size, h.below.trans (hB.mono (by omega))⟩
 ·have e' : gl = g := by injection e
  omega
 ·have e' : hb = g := by injection e
  omega
 ·rw [payL_app, List.length_append]
  simp only [payL, List.append_nil]
  exact hown
theorem StM.left (h : StM w wr n lb gl cl Bl hb ck Bo u L vo P) (hn : 0 < n) : LeftM wr n lb gl cl u :=
 ⟨h.box, rowIs_own h.row hn, by have := h.bl; have := h.llb; have := h.lhb; have := h.lbo; omega⟩
/-- the members of a group -/
structure MemM (wr : World) (Bg : Nat) (vg : Value) (G : List Nat) (vo : Value) : Prop where
 mem : wr.ownsRow Bg 3 1 vg G.length (intC G)
 apart : ∀ k, vg.ownBlock = some k → vo.ownBlock ≠ some k
theorem MemM.keep {w' : World} {Bg : Nat} {vg : Value} {G : List Nat} (h : MemM wr Bg vg G vo) (hb' : Below wr.heap.size wr w') : MemM w' Bg vg G vo := ⟨own_kept h.mem hb', h.apart⟩
theorem MemM.set {Bg : Nat} {vg : Value} {G : List Nat} (h : MemM wr Bg vg G vo) (i : Nat) (hg : gl < Bg) (x : Value) : MemM (wr.setCell ⟨gl, i, none⟩ x) Bg vg G vo := ⟨ownsRow_setCell_below h.mem hg _, h.apart⟩
theorem MemM.push {Bg : Nat} {vg : Value} {G : List Nat} {w5 : World} {v' : Value} (h : MemM wr Bg vg G vo) (ob : Obj) (hgrow : (wr.alloc ob).grownBy w5 vo.ownBlock) (hbk : v'.ownBlock = vo.ownBlock ∨ v'.ownBlock = some (wr.alloc ob).heap.size) : MemM w5 Bg vg G v' := by
 refine ⟨(h.mem.alloc ob).kept hgrow ?_, fun k e e2 => ?_⟩
 ·rcases hv : vg.ownBlock with _ | k
  ·exact .inl rfl
  ·right; intro e; exact h.apart k hv e.symm
 ·rcases hbk with q | q
  ·rw [q] at e2; exact h.apart k e e2
  ·rw [q] at e2
   injection e2 with e2
   have := (h.mem.lt k e).2
   simp at e2; omega
theorem MemM.ints {Bg : Nat} {vg : Value} {G : List Nat} (h : MemM wr Bg vg G vo) : Ints wr vg G.length (lsF G) := by
 have := h.mem
 rw [intC_ics] at this
 exact ints_of_own this
end
theorem mem_rise (s n i j : Nat) (hij : i < j) (hj : j < (mem s n).length) : (mem s n).getD i 0 < (mem s n).getD j 0 := by
 have h : (mem s n).Pairwise (· < ·) := List.Pairwise.filter _ List.pairwise_lt_range
 have := (List.pairwise_iff_getElem.1 h) i j (by omega) hj hij
 simpa [show i < (mem s n).length by omega, hj] using this
theorem hit_ex {v : Nat → Int} {sg : Int} {G : List Nat} : ∀ k, k ≤ G.length → ¬ NoHit v sg G k → ∃ p, HitAt v sg G p
 | 0, _, h => absurd (fun j hj => by omega) h
 | k + 1, hk, h => by
  by_cases e : NoHit v sg G k
  ·refine ⟨k, by omega, Classical.byContradiction (fun q => h (fun j hj => ?_)), e⟩
   by_cases e2 : j = k
   ·rw [e2]; exact q
   ·exact e j (by omega)
  ·exact hit_ex k (by omega) e
theorem hit_first {v : Nat → Int} {sg : Int} {s n p : Nat} (h : HitAt v sg (mem s n) p) (i : Nat) (hi : s.testBit i = true) (hn : i < n) (hp : 0 < v i * sg) : (mem s n).getD p 0 ≤ i := by
 obtain ⟨j, hj, e⟩ := List.getElem_of_mem ((mem_mem s n i).2 ⟨hn, hi⟩)
 have e2 : (mem s n).getD j 0 = i := by simp [hj, e]
 rcases Nat.lt_trichotomy j p with q | q | q
 ·have := h.first j q; rw [e2] at this; exact absurd hp this
 ·rw [q] at e2; omega
 ·have := mem_rise s n p j q hj; omega
theorem nohit_all {v : Nat → Int} {sg : Int} {s n : Nat} (h : NoHit v sg (mem s n) (mem s n).length) (i : Nat) (hi : s.testBit i = true) (hn : i < n) : ¬ 0 < v i * sg := by
 obtain ⟨j, hj, e⟩ := List.getElem_of_mem ((mem_mem s n i).2 ⟨hn, hi⟩)
 have e2 : (mem s n).getD j 0 = i := by simp [hj, e]
 have := h j hj
 rw [e2] at this; exact this
theorem HitAt.uniq {v : Nat → Int} {sg : Int} {G : List Nat} {a b : Nat} (h : HitAt v sg G a) (k : HitAt v sg G b) : a = b := by
 rcases Nat.lt_trichotomy a b with q | q | q
 ·exact absurd h.hit (k.first a q)
 ·exact q
 ·exact absurd k.hit (h.first b q)
section
variable (w : World) (n lb gl cl : Nat) (v : Nat → Int) (sg : Int) (G : List Nat) (vg : Value) (hL : LeftM w n lb gl cl v) (hG : Ints w vg G.length (lsF G)) (hn : G.length ≤ 1048576) (hm : ∀ j, j < G.length → G.getD j 0 < n) (hv : ∀ i, i < n → -10000 ≤ v i ∧ v i ≤ 10000) (hg : sg = 1 ∨ sg = -1)
include hL hG hn hm hv hg
theorem find_at (k : Nat) (h : HitAt v sg G k) : Calls Tryz.prog 17 #[vg, .int .i64 sg, .pointer (some ⟨lb, 0, none⟩)] w fun e w' => e = .returned (.int .i64 (k : Nat)) ∧ Below w.heap.size w w' := by
 refine (find_any w n lb gl cl v sg G vg hL hG hn hm hv hg).mono ?_
 rintro e w' ⟨(⟨rfl, hq⟩ | ⟨j, rfl, hq⟩), hb⟩
 ·exact absurd h.hit (hq k h.lt)
 ·rw [hq.uniq h]; exact ⟨rfl, hb⟩
theorem find_no (h : NoHit v sg G G.length) : Calls Tryz.prog 17 #[vg, .int .i64 sg, .pointer (some ⟨lb, 0, none⟩)] w fun e w' => e = .returned (.int .i64 (-1)) ∧ Below w.heap.size w w' := by
 refine (find_any w n lb gl cl v sg G vg hL hG hn hm hv hg).mono ?_
 rintro e w' ⟨(⟨rfl, hq⟩ | ⟨j, rfl, hq⟩), hb⟩
 ·exact ⟨rfl, hb⟩
 ·exact absurd hq.hit (h j hq.lt)
theorem find_some : Calls Tryz.prog 17 #[vg, .int .i64 sg, .pointer (some ⟨lb, 0, none⟩)] w fun e w' => ∃ z : Int, e = .returned (.int .i64 z) ∧ Below w.heap.size w w' := by
 refine (find_any w n lb gl cl v sg G vg hL hG hn hm hv hg).mono ?_
 rintro e w' ⟨(⟨rfl, hq⟩ | ⟨j, rfl, hq⟩), hb⟩
 ·exact ⟨_, rfl, hb⟩
 ·exact ⟨_, rfl, hb⟩
end
theorem infoP : (Tryz.prog.info? 46).map (fun i => (i.zero, i.size, i.bytes)) = some (some (.agg #[.int .i64 0, .int .i64 0, .int .i64 0]), 3, 24) := by kernel_rfl
theorem new3 (w : World) (x : Pmt) (t : TypeId) : ∀ j u, (payC x)[j]? = some u → (w.alloc (.cells (payC x).toArray t)).cell? ((⟨w.heap.size, 0, none⟩ : Addr).add j) = some u := fun j u hj => by
 have hadd : (⟨w.heap.size, 0, none⟩ : Addr).add j = ⟨w.heap.size, j, none⟩ := by unfold Addr.add; split <;> simp_all
 rw [hadd]
 simp [go_sem]
 exact hj
theorem one3 (x : Pmt) : ∀ u ∈ payC x, u.oneCell' = true := fun u hu => by
 simp [payC] at hu
 rcases hu with rfl | rfl | rfl <;> rfl
set_option maxHeartbeats 1000000 in
set_option maxRecDepth 100000 in
theorem clone_any (v : Value) (n : Nat) (f : Nat → Int) (w : World) (hv : Ints w v n f) (h1 : 1 ≤ n) (hn : n ≤ 1000) :
  Calls Tryz.prog 16 #[v] w fun e w' => ∃ g c, e = .returned (.slice (some ⟨g, 0, none⟩) n c) ∧ w'.ownsRow w.heap.size 3 1 (.slice (some ⟨g, 0, none⟩) n c) n (ics f n) ∧ Below w.heap.size w w' := by
 obtain ⟨a, b, o, c, rfl, hs⟩ := hv
 obtain ⟨i0, hinf, hz0, hz1, hz2⟩ := info_parts infoI
 obtain rfl := hs.at_ (by omega)
 have hnil : ∀ (W : World) (x : Option Addr) (n c : Nat), (binOp .eql 22 (.slice x n c) (.slice none 0 0)).run Tryz.prog W = .ok (.bool x.isNone) W := fun W x n c => Lib.run_eql_slice_nil W 22 3 x n c 0 0 Tryz.underlying22
 have KW := Lib.hid ((Below.refl w.heap.size w).alloc (Nat.le_refl _) (.cells #[] 3))
 have OW : Hid ((w.alloc (.cells #[] 3)).ownsRow w.heap.size 3 1 (.slice (some ⟨w.heap.size, 0, none⟩) 0 0) 0 []) := Lib.hid (World.ownsRow_made w #[] 0 (Nat.le_refl _) (by unfold maxLen; omega) rfl)
 have HS := Lib.hid (hs.alloc (.cells #[] 3))
 have HONE := Lib.hid (ics_one f n)
 have HLEN := Lib.hid (show (ics f n).length = n * 1 by rw [ics_length]; omega)
 have HNW := Lib.hid (news_of HS.out n (Nat.le_refl _))
 clear hs
 go_enter Tryz.func16, Tryz.ntmps16
 go_wp2_with (at_builtin; refine wpList_append_own _ rfl (.tmp 5) (.tmp 6) 22 rfl w.heap.size 3 i0 (.int .i64 0) 1 8 Tryz.underlying22 hinf hz0 hz1 hz2 rfl (by decide) (.slice (some ⟨w.heap.size, 0, none⟩) 0 0) 0 [] rfl OW.out ⟨b, o, none⟩ n c (ics f n) rfl HLEN.out HNW.out HONE.out (by unfold maxLen; omega) (by omega) (by simp) ?_; intro v' w3 hown hgrow _; have KW := Lib.hid (KW.out.grown hgrow (by simp) (fun kk e => by cases e; exact Nat.le_refl _)); have HOWN := Lib.hid hown; clear hown hgrow)
 go_ret
 have hown := HOWN.out
 rw [Nat.zero_add, List.nil_append] at hown
 obtain ⟨g, cap, rfl, _, _⟩ := hown.form (by omega)
 exact ⟨g, cap, rfl, hown, KW.out⟩
end Go.Proofs.YtcnaagiicpkcpaaGreat

/- Settle. -/
namespace Go.Proofs.YtcnaagiicpkcpaaGreat
open Go.RowKit
attribute [local go_sem ↓] Go.wp_at_zero Go.wp_at_succ
/-- payments as handed out -/
def PayS (w : World) (v : Value) (P : List Pmt) : Prop := ∃ a c, v = .slice a P.length c ∧ (0 < P.length → ∃ g, a = some ⟨g, 0, none⟩ ∧ g < w.heap.size ∧ PayR w g P)
theorem PayS.below {w w' : World} {v : Value} {P : List Pmt} {B : Nat} (h : PayS w v P) (hb : Below B w w') (hB : w.heap.size ≤ B) : PayS w' v P := by
 obtain ⟨a, c, e, h⟩ := h
 refine ⟨a, c, e, fun h0 => ?_⟩
 obtain ⟨g, e2, hg, hr⟩ := h h0
 refine ⟨g, e2, Nat.lt_of_lt_of_le hg hb.size, ⟨fun i hi => ?_, fun i hi => ?_, fun i hi => ?_⟩⟩
 ·exact (hb.cell (p := ⟨g, i * 3, none⟩) (by show g < B; omega)).trans (hr.c0 i hi)
 ·exact (hb.cell (p := ⟨g, i * 3 + 1, none⟩) (by show g < B; omega)).trans (hr.c1 i hi)
 ·exact (hb.cell (p := ⟨g, i * 3 + 2, none⟩) (by show g < B; omega)).trans (hr.c2 i hi)
theorem sortAll_any (w : World) (base : Nat) (a : Option Addr) (cap : Nat) (P : List Pmt) (h : w.ownsRow base 46 3 (.slice a P.length cap) P.length (payL P)) (h12 : P.length ≤ 12) :
  Calls Tryz.prog 20 #[.slice a P.length cap, .func (.func 21) #[] #[]] w fun e w' => e = .returned (.tuple #[]) ∧ ∃ P' : List Pmt, P'.length = P.length ∧ P.Perm P' ∧ P'.Pairwise (fun a b => ¬ ltK b a) ∧ PayS w' (.slice a P.length cap) P' ∧ Below base w w' ∧ w.heap.size ≤ w'.heap.size := by
 rcases P with _ | ⟨x, l⟩
 ·refine Calls.mono (AnyF.slices_SortFunc_none Tryz.sortPay a cap (.func (.func 21) #[] #[]) w) ?_
  rintro e w' ⟨rfl, rfl⟩
  exact ⟨rfl, [], rfl, .refl _, .nil, ⟨a, cap, rfl, fun h0 => absurd h0 (by simp)⟩, Below.refl _ _, Nat.le_refl _⟩
 ·obtain ⟨g, c', hv, _, _⟩ := h.form (by simp)
  obtain rfl : a = some ⟨g, 0, none⟩ := by injection hv
  refine (sortPay_any w base g cap (x :: l) h h12).mono ?_
  rintro e w' ⟨rfl, P', hl, hp, hs, hr, hb, hg⟩
  exact ⟨rfl, P', hl, hp, hs, ⟨_, cap, by rw [hl], fun _ => ⟨g, rfl, hg, hr⟩⟩, hb, hb.size⟩
theorem payV_set (u : Nat → Int) (p r : Nat) (a : Int) : setN (setN u p (u p + a)) r (u r - a) = payV u p r a := by
 funext i
 unfold setN payV
 by_cases e : i = r
 ·simp [e]
 ·simp [e]
theorem StG.kle {n : Nat} {f : Nat → Int} {s : Nat} {v : Nat → Int} {k u : Nat} (h : StG n f s v k u) : k ≤ n := by
 rcases h.cnt with ⟨_, e⟩ | ⟨_, e⟩
 ·omega
 ·have := cd_le u n; omega
theorem grp_step {n : Nat} {f : Nat → Int} {left : Nat} {L : List Nat} {q : Nat} (h : GrpP n f left (L.drop q) 0) (hq : q < L.length) : Best n f left (L.getD q 0) ∧ GrpP n f (left - L.getD q 0) (L.drop (q + 1)) 0 := by
 rw [List.drop_eq_getElem_cons hq] at h
 have e : L.getD q 0 = L[q] := by simp [hq]
 rw [e]; exact h
set_option maxHeartbeats 8000000 in
set_option maxRecDepth 100000 in
theorem Settle_any (v : Value) (n : Nat) (f : Nat → Int) (w : World) (hv : Ints w v n f) (hB : Balances n f) :
  Calls Tryz.prog 7 #[v] w fun e w' => ∃ va vk P, e = .returned (.tuple #[.slice va P.length vk, .int .i64 0]) ∧ SetOK n f P ∧ P.length ≤ 12 ∧ (∀ L, GrpP n f (2 ^ n - 1) L 0 → P.length + bigC n L = nzC f (2 ^ n - 1) n) ∧ PayS w' (.slice va P.length vk) P ∧ Below w.heap.size w w' := by
 have HV := Lib.hid hv
 have HB := Lib.hid hB
 have hn10 : n ≤ 10 := hB.2.1
 have hn1 : 1 ≤ n := hB.1
 have HSM : Hid (smI f (2 ^ n - 1) n = 0) := Lib.hid (by rw [smI_all f n n (Nat.le_refl _)]; exact hB.2.2.2)
 obtain ⟨i0, hinf, hz0, hz1, hz2⟩ := info_parts infoP
 clear hv hB
 go_enter Tryz.func7, Tryz.ntmps7
 go_wp2_with (first
  | (go_at_call 13; (with_reducible refine (balanced_any v n f true ⟨fun _ => HB.out, fun _ => rfl⟩ _ HV.out (by omega)).mono ?_); rintro e w1 ⟨rfl, rfl⟩)
  | (go_at_call 16; (with_reducible refine (clone_any v n f _ HV.out hn1 (by omega)).mono ?_); rintro e w1 ⟨gl, cl, rfl, ho, hb⟩; have HO := Lib.hid ho; have KW := Lib.hid hb; have KA := Lib.hid (hb.alloc hb.size (.cells #[.slice (some ⟨gl, 0, none⟩) n cl] 22)); clear ho hb)
  | (go_at_call 14; (with_reducible refine (groups_own v n f _ (HV.out.mono KA.out (Nat.le_refl _)) HB.out).mono ?_); rintro e w2 ⟨va, vk, L, rfl, hG, hL, ho2, hb2⟩; have HG := Lib.hid hG; have HO2 := Lib.hid ho2; have HB2 := Lib.hid hb2; clear hG ho2 hb2))
 have hL0 : 0 < L.length := by
  rcases hl : L with _ | ⟨g, l⟩
  ·have := HG.out
   rw [hl] at this
   have h0 : 0 = 2 ^ n - 1 := this
   have := Nat.pow_le_pow_right (n := 2) (by omega) hn1
   omega
  ·simp
 obtain ⟨hb, cap', hva, hbl, hbw⟩ := HO2.out.form hL0
 obtain rfl : va = some ⟨hb, 0, none⟩ := by injection hva
 clear hva cap'
 have hgl := (HO.out.lt gl rfl)
 have M0 : Hid (StM w w2 n w1.heap.size gl cl (w1.heap.size + 1) hb vk w2.heap.size f L (.slice none 0 0) []) := Lib.hid
  ⟨own_kept (HO.out.alloc _) HB2.out, (HB2.out.cell (p := ⟨w1.heap.size, 0, none⟩) (by simp)).trans (by simp), own_base HO2.out (by simp), World.ownsRow_nil _ _ _ _, hgl.2, by omega, hbw, Nat.le_refl _, KA.out.trans (HB2.out.mono KA.out.size)⟩
 have R0 : Hid (GrS n f (2 ^ n - 1) 0 f []) := Lib.hid (GrS.start HB.out.2.2.1 HSM.out)
 have HG0 : Hid (GrpP n f (2 ^ n - 1) (L.drop 0) 0) := Lib.hid (by rw [List.drop_zero]; exact HG.out)
 clear HO KW KA HO2 HB2 hbl hbw
 generalize w1.heap.size = lb at M0 ⊢
 generalize lb + 1 = Bl at M0
 generalize hBo : w2.heap.size = Bo at M0
 clear hBo hgl
 go_loopw [5, 8, 9, 10, 11, 12, 13, 14, 24] (fun v5 v8 v9 v10 v11 v12 v13 v14 v24 wr => ∃ (q : Nat) (P : List Pmt) (u : Nat → Int) (left : Nat) (vo : Value), q ≤ L.length ∧ v24 = .int .i64 (q : Nat) ∧ vo = v5 ∧ Hid (GrS n f left q u P) ∧ Hid (GrpP n f left (L.drop q) 0) ∧ Hid (StM w wr n lb gl cl Bl hb vk Bo u L vo P)) (fun _ _ _ _ _ _ _ _ v24 _ => L.length - (intOf v24).toNat)
 case atStart => exact ⟨0, [], f, 2 ^ n - 1, _, by omega, rfl, rfl, R0, HG0, M0⟩
 case round =>
  clear R0 HG0 M0
  obtain ⟨q, P, u, left, vo, hq, rfl, rfl, GS, GP, SM⟩ := hrel
  by_cases h : q < L.length
  ·have e1 : decide ((q : Int) < ((L.length : Nat) : Int)) = true := by simpa using h
   have e1n : decide (q < L.length) = true := by simpa using h
   have hst := grp_step GP.out h
   have HBest := Lib.hid hst.1
   have GP2 := Lib.hid hst.2
   have hls := rowIs_own (by have := SM.out.lst; rw [intC_ics] at this; exact this) hL0
   have hix := fun W => ixI hls q vk h W
   have hc := hls.cell q h
   simp only [ic, Nat.zero_add] at hix hc
   obtain ⟨g, hg⟩ : ∃ g, g = L.getD q 0 := ⟨_, rfl⟩
   rw [← hg] at hc HBest GP2
   have HCG := Lib.hid HBest.out.1
   have HGN : Hid (g < 2 ^ n) := Lib.hid (Nat.lt_of_le_of_lt HCG.out.sub.le GS.out.lt)
   have hg10 : g < 1024 := Nat.lt_of_lt_of_le HGN.out (Nat.pow_le_pow_right (n := 2) (by omega) hn10)
   have HMin := Lib.hid (GS.out.min HCG.out)
   have HMT := Lib.hid (mem_ten HGN.out hn10)
   have hml := mem_len g 10
   have hm0 : 0 < (mem g 10).length := by rw [HMT.out]; exact mem_some g HGN.out HCG.out.pos
   have HMM : Hid (∀ j, j < (mem g 10).length → (mem g 10).getD j 0 < n ∧ g.testBit ((mem g 10).getD j 0) = true) := Lib.hid (fun j hj => by rw [HMT.out] at hj ⊢; exact memb_at g j hj)
   clear hg hst hls
   have HVO := Lib.hid SM.out.out.lt
   go_wp2_with (first
    | (go_at_call 15; (with_reducible refine (members_any g _ hg10).mono ?_); rintro e w3 ⟨vb, vc, rfl, ho3, hb3⟩; have hBg := SM.out.lbo; have SM := Lib.hid (SM.out.keep hb3); have MM := Lib.hid (show MemM w3 wr.heap.size (.slice vb (mem g 10).length vc) (mem g 10) vo from ⟨ho3, fun k e e2 => by have := (ho3.lt k e).1; have := (HVO.out k e2).2; omega⟩); clear ho3 hb3))
   clear hix hc HVO
   obtain ⟨mb, cap', hvb, _, _⟩ := MM.out.mem.form hm0
   obtain rfl : vb = some ⟨mb, 0, none⟩ := by injection hvb
   clear hvb cap'
   obtain ⟨Bg, hBge⟩ : ∃ B, B = wr.heap.size := ⟨_, rfl⟩
   rw [← hBge] at MM hBg
   clear hBge
   have SG0 := Lib.hid (StG.start HMin.out)
   have SS0 := Lib.hid GS.out.set
   have hPn : P.length ≤ 10 := by have := GS.out.cnt; omega
   go_loopw [5, 10, 11, 12, 13, 14] (fun v5 v10 v11 v12 v13 v14 wr => ∃ (P' : List Pmt) (u' : Nat → Int) (k uu : Nat) (vo' : Value), vo' = v5 ∧ Hid (P'.length = P.length + k) ∧ Hid (SetS n f u' P') ∧ Hid (StG n u g u' k uu) ∧ Hid (StM w wr n lb gl cl Bl hb vk Bo u' L vo' P') ∧ Hid (MemM wr Bg (.slice (some ⟨mb, 0, none⟩) (mem g 10).length vc) (mem g 10) vo')) (fun v5 _ _ _ _ _ _ => match v5 with | .slice _ x _ => 40 - x | _ => 0)
   case atStart => exact ⟨P, u, 0, 0, _, rfl, Lib.hid rfl, SS0, SG0, SM, MM⟩
   case round =>
    clear SS0 SG0 SM MM
    obtain ⟨P', u', k, uu, vo', rfl, HLEN, SS, SG, SM, MM⟩ := hrel
    obtain ⟨va5, vk5, rfl⟩ := own_shape SM.out.out
    have hk := SG.out.kle
    have HBN := Lib.hid SS.out.bnd
    have HME := Lib.hid (fun j hj => (HMM.out j hj).1)
    by_cases hm : NoHit u' (-1) (mem g 10) (mem g 10).length
    ·have HM := Lib.hid hm
     have hnn : ∀ i, g.testBit i = true → 0 ≤ u' i := fun i hi => by
      have hi10 : i < 10 := bit_lt (show g < 2 ^ 10 from hg10) hi
      have := nohit_all hm i hi hi10
      omega
     have GS2 := Lib.hid (GS.out.next HCG.out SS.out SG.out hnn HLEN.out)
     clear hm hnn
     go_wp2_with (first
      | (go_at_call 17; (with_reducible refine (find_no _ n lb gl cl u' (-1) (mem g 10) _ (SM.out.left (by omega)) MM.out.ints (by omega) HME.out HBN.out (.inr rfl) HM.out).mono ?_); rintro e w4 ⟨rfl, hb4⟩; have SM := Lib.hid (SM.out.keep hb4); have MM := Lib.hid (MM.out.keep hb4); clear hb4)
      | (go_at_call 17; (with_reducible refine (find_some _ n lb gl cl u' 1 (mem g 10) _ (SM.out.left (by omega)) MM.out.ints (by omega) HME.out HBN.out (.inl rfl)).mono ?_); rintro e w5 ⟨z, rfl, hb5⟩; have SM := Lib.hid (SM.out.keep hb5); have MM := Lib.hid (MM.out.keep hb5); clear hb5))
     go_roundw
     case rel => exact ⟨q + 1, P', u', left - g, _, by omega, by go_num, rfl, GS2, GP2, SM⟩
     case measure => simp [intOf]; omega
    ·obtain ⟨p, hp⟩ := hit_ex _ (Nat.le_refl _) hm
     have HP := Lib.hid hp
     have hpm := HMM.out p hp.lt
     have hpl := hp.lt
     have hpf := fun i hi hn' hp' => hit_first (n := 10) hp i hi hn' hp'
     have hpx := hp.hit
     obtain ⟨x, hx⟩ : ∃ x, x = (mem g 10).getD p 0 := ⟨_, rfl⟩
     rw [← hx] at hpm hpf hpx
     obtain ⟨rr, hr1, hr2⟩ := SG.out.both HMin.out (p := x) hpm.2 (by omega)
     have hnr : ¬ NoHit u' 1 (mem g 10) (mem g 10).length := fun hno => by
      have := nohit_all hno rr hr1 (bit_lt (show g < 2 ^ 10 from hg10) hr1)
      omega
     obtain ⟨r, hr⟩ := hit_ex _ (Nat.le_refl _) hnr
     have HR := Lib.hid hr
     have hrm := HMM.out r hr.lt
     have hrl := hr.lt
     have hrf := fun i hi hn' hp' => hit_first (n := 10) hr i hi hn' hp'
     have hrx := hr.hit
     obtain ⟨y, hy⟩ : ∃ y, y = (mem g 10).getD r 0 := ⟨_, rfl⟩
     rw [← hy] at hrm hrf hrx
     have hbx := HBN.out x hpm.1
     have hby := HBN.out y hrm.1
     obtain ⟨am, ham⟩ : ∃ am, am = min (-u' x) (u' y) := ⟨_, rfl⟩
     have SS2 := Lib.hid (SS.out.step hpm.1 hrm.1 (by omega) (by omega) ham)
     obtain ⟨uu2, hSG2⟩ := SG.out.step HMin.out hpm.2 hrm.2 (by omega) (by omega) (fun i hi hneg => hpf i hi (bit_lt (show g < 2 ^ 10 from hg10) hi) (by omega)) (fun i hi hpos => hrf i hi (bit_lt (show g < 2 ^ 10 from hg10) hi) (by omega)) ham
     have SG2 := Lib.hid hSG2
     have hk2 := hSG2.kle
     have hxn := hpm.1
     have hyn := hrm.1
     have hxy : x ≠ y := fun e => by rw [e] at hpx; omega
     have hxy2 : ¬ y = x := fun e => hxy e.symm
     have hx0 : u' x < 0 := by omega
     have hy0 : 0 < u' y := by omega
     have HX := Lib.hid hx
     have HY := Lib.hid hy
     have hamr : 1 ≤ am ∧ am ≤ 10000 := by omega
     have HAM := Lib.hid ham
     clear ham
     clear hm hp hpf hpx hr1 hr2 hnr hr hrf hrx hSG2 hpm hrm hx hy
     have dP : decide ((p : Int) < 0) = false := by simp
     go_wp2_with (first
      | (go_at_call 17; (with_reducible refine (find_at _ n lb gl cl u' (-1) (mem g 10) _ (SM.out.left (by omega)) MM.out.ints (by omega) HME.out HBN.out (.inr rfl) p HP.out).mono ?_); rintro e w4 ⟨rfl, hb4⟩; have SM := Lib.hid (SM.out.keep hb4); have MM := Lib.hid (MM.out.keep hb4); clear hb4)
      | (go_at_call 17; (with_reducible refine (find_at _ n lb gl cl u' 1 (mem g 10) _ (SM.out.left (by omega)) MM.out.ints (by omega) HME.out HBN.out (.inl rfl) r HR.out).mono ?_); rintro e w5 ⟨rfl, hb5⟩; have SM := Lib.hid (SM.out.keep hb5); have MM := Lib.hid (MM.out.keep hb5); clear hb5))
     have hms := rowIs_own (by have := MM.out.mem; rw [intC_ics] at this; exact this) hm0
     have ip := fun W => ixI hms p vc hpl W
     have ir := fun W => ixI hms r vc hrl W
     have cp := hms.cell p hpl
     have cr := hms.cell r hrl
     simp only [ic, Nat.zero_add] at ip ir cp cr
     rw [← HX.out] at cp
     rw [← HY.out] at cr
     go_quiet (fail)
     have SM := Lib.hid (SM.out.keep (below_drawN (Below.refl _ _) nq))
     have MM := Lib.hid (MM.out.keep (below_drawN (Below.refl _ _) nq))
     clear ip ir cp cr hms
     generalize w5.drewN nq = w6 at SM MM ⊢
     have hlr := rowIs_own SM.out.row (by omega)
     have ix := fun W => ixI hlr x cl hxn W
     have iy := fun W => ixI hlr y cl hyn W
     have cx := hlr.cell x hxn
     have cy := hlr.cell y hyn
     have bx := SM.out.box
     have hwn : IntKind.i64.wrap (-u' x) = -u' x := by rw [IntKind.wrap_i64]; omega
     simp only [ic, Nat.zero_add] at ix iy cx cy
     go_wp2
     go_quiet (fail)
     have SM := Lib.hid (SM.out.keep (below_drawN (Below.refl _ _) nq))
     have MM := Lib.hid (MM.out.keep (below_drawN (Below.refl _ _) nq))
     rw [← HAM.out]
     clear ix iy cx cy bx hlr hwn
     generalize w6.drewN nq = w7 at SM MM ⊢
     have hlr := rowIs_own SM.out.row (by omega)
     have ix := fun W => ixI hlr x cl hxn W
     have cx := hlr.cell x hxn
     have bx := SM.out.box
     have fx := SM.out.row.frozenAt x
     have hwx : IntKind.i64.wrap (u' x + am) = u' x + am := by rw [IntKind.wrap_i64]; omega
     simp only [ic, Nat.zero_add] at ix cx
     go_upto_region 15 with (fail)
     have SM := Lib.hid (SM.out.set x (u' x + am))
     have MM := Lib.hid (MM.out.set (gl := gl) x (by have := SM.out.bl; have := SM.out.lgl; have := SM.out.llb; have := SM.out.lhb; omega) (.int .i64 (u' x + am)))
     clear ix cx bx fx hlr hwx
     generalize w7.setCell ⟨gl, x, none⟩ (.int .i64 (u' x + am)) = w8 at SM MM ⊢
     have hlr := rowIs_own SM.out.row (by omega)
     have iy := fun W => ixI hlr y cl hyn W
     have cy := hlr.cell y hyn
     have by_ := SM.out.box
     have fy := SM.out.row.frozenAt y
     have hwy : IntKind.i64.wrap (u' y - am) = u' y - am := by rw [IntKind.wrap_i64]; omega
     simp only [ic, Nat.zero_add, setN, if_neg hxy2] at iy cy
     go_upto_region 16 with (fail)
     have SM := Lib.hid (SM.out.set y (u' y - am))
     have MM := Lib.hid (MM.out.set (gl := gl) y (by have := SM.out.bl; have := SM.out.lgl; have := SM.out.llb; have := SM.out.lhb; omega) (.int .i64 (u' y - am)))
     clear iy cy by_ fy hlr hwy
     generalize w8.setCell ⟨gl, y, none⟩ (.int .i64 (u' y - am)) = w9 at SM MM ⊢
     rw [payV_set] at SM
     have hbo := SM.out.lbo
     have hpl2 : P'.length ≤ 20 := by have := HLEN.out; omega
     go_wp2_with (at_builtin; refine wpList_append_own_at _ rfl (.tmp 70) (.tmp 75) 28 rfl Bo 46 i0 _ 3 24 Tryz.underlying28 hinf hz0 hz1 hz2 rfl (by decide) (.slice va5 P'.length vk5) P'.length (payL P') rfl (SM.out.out.alloc _) ⟨w9.heap.size, 0, none⟩ 1 1 (payC ⟨x, y, am⟩) rfl rfl (new3 w9 ⟨x, y, am⟩ _) (one3 ⟨x, y, am⟩) (by unfold maxLen; omega) (by omega) (by simp; omega) ?_; intro v' w10 hown hgrow _ hbk; have SM := Lib.hid (SM.out.push (x := ⟨x, y, am⟩) _ hgrow hown); have MM := Lib.hid (MM.out.push _ hgrow hbk); obtain ⟨va6, vk6, rfl⟩ := own_shape hown; clear hown hgrow hbk)
     have hl1 : (P' ++ [(⟨x, y, am⟩ : Pmt)]).length = P'.length + 1 := by simp
     go_roundw
     case rel => exact ⟨P' ++ [(⟨x, y, am⟩ : Pmt)], _, k + 1, uu2, _, rfl, Lib.hid (by rw [hl1, HLEN.out]; omega), SS2, SG2, SM, MM⟩
     case measure => simp; omega
  ·have hqe : q = L.length := by omega
   have dq : decide ((q : Int) < ((L.length : Nat) : Int)) = false := by simp; omega
   have dqn : decide (q < L.length) = false := by simpa using h
   have hl0 : left = 0 := by
    have := GP.out
    rw [hqe, List.drop_length] at this
    exact (show 0 = left from this).symm
   subst hl0
   obtain ⟨va5, vk5, rfl⟩ := own_shape SM.out.out
   have GS0 : Hid (GrS n f 0 L.length u P) := Lib.hid (by rw [← hqe]; exact GS.out)
   have hGP := GP.out
   rw [hqe, List.drop_length] at hGP
   have hPn : P.length ≤ 10 := by have := GS0.out.cnt; omega
   clear hqe hGP h GP GS
   go_wp2_with (go_at_call 20; (with_reducible refine (sortAll_any wr Bo va5 vk5 P SM.out.out (by omega)).mono ?_); rintro e w2 ⟨rfl, P', hl, hp, hs, hr, hb, hbs⟩; have HP := Lib.hid hp; have HS := Lib.hid hs; have HR := Lib.hid hr; have HL := Lib.hid hl; have HB3 := Lib.hid hb; clear hp hs hr hl hb)
   go_ret2
   have hl := HL.out
   have hsz := SM.out.lbo
   refine ⟨va5, vk5, P', by rw [hl]; rfl, GS0.out.end HP.out HS.out, by omega, fun L' hL' => ?_, by rw [hl] at *; exact HR.out, SM.out.below.trans (HB3.out.mono ?_)⟩
   ·rw [hl]
    have e : L' = L := hL'.uniq HG.out
    rw [e]; exact few_ok HSM.out HG.out GS0.out
   ·have := SM.out.lgl; have := SM.out.llb; have := SM.out.bl; have := SM.out.lhb; have := (SM.out.row.lt gl rfl).1; omega
end Go.Proofs.YtcnaagiicpkcpaaGreat
