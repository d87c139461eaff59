/- Measure, Code, Lay and Order of a cut with its measures. -/
import Derived.Test.YtolkchkedieppaaGreatVLast
import Derived.Test.YtolkchkedieppaaGreatVLawO
import Derived.Test.YtolkchkedieppaaGreatVOrd
import Derived.Test.YtolkchkedieppaaGreatVNetB
import Derived.Laws.OwnMore
import Derived.Deep.DeepCutAuto
import Derived.Deep.CutBlock
set_option linter.unusedVariables false
set_option linter.unusedSimpArgs false
namespace Go.Proofs.YtolkchkedieppaaGreat
open Go.RowKit
/-- a row of squares of one's own, at the head of its block -/
structure OwS (B : Nat) (w : World) (v : Value) (L : List Tr) : Prop where
 own : w.ownsRow B 47 3 v L.length (trL L)
 ex : ∃ g c, v = .slice (some ⟨g, 0, none⟩) L.length c ∧ B ≤ g ∧ g < w.heap.size ∧ L.length ≤ c ∧ TrR w g 0 L
theorem ows_of {B : Nat} {w : World} {v : Value} {L : List Tr} (h : w.ownsRow B 47 3 v L.length (trL L)) (hp : 0 < L.length) : OwS B w v L := by
 refine ⟨h, ?_⟩
 rcases h.2 with ⟨_, e⟩ | ⟨g, cap, cur, rfl, hbg, hg, hc, _⟩
 ·omega
 ·exact ⟨g, cap, rfl, hbg, (Array.getElem?_eq_some_iff.1 hg).1, hc, trR_own h⟩
theorem OwS.below {B : Nat} {w w' : World} {v : Value} {L : List Tr} (h : OwS B w v L) (hb : Below w.heap.size w w') : OwS B w' v L := by
 obtain ⟨g, c, rfl, h1, h2, h3, h4⟩ := h.ex
 exact ⟨own_kept h.own hb, g, c, rfl, h1, Nat.lt_of_lt_of_le h2 hb.size, h3, h4.below hb h2⟩
theorem measure_mk {B : Nat} (v : Value) (L : List Tr) (W H : Nat) (w : World) (hv : OwS B w v L) (hm : MkC L W H) (hn : L.length ≤ 24) :
  Calls Tryz.prog 30 #[v] w fun e w' => e = .returned (.tuple #[.int .i64 (W : Nat), .int .i64 (H : Nat), .int .i64 0]) ∧ Below w.heap.size w w' := by
 obtain ⟨g, c, rfl, _, h2, h3, h4⟩ := hv.ex
 have h := measure_good g c L w h4 h2 h3 (hm.cut hn)
 rw [hm.wd, hm.ht] at h
 exact h
theorem lay_mk (v : Value) (S : List Tr) (W H : Nat) (w : World) (hv : Ints w v (szL S).length (eF (szL S))) (hm : MkC S W H) (hn : S.length ≤ 24) (hs : S.Pairwise (fun a b => ¬ ltS b a)) :
  Calls Tryz.prog 15 #[.int .i64 (W : Nat), v] w fun e w' => ∃ va vk, e = .returned (.tuple #[.slice va S.length vk, .int .i64 0]) ∧ OwS w.heap.size w' (.slice va S.length vk) S ∧ Below w.heap.size w w' := by
 obtain ⟨F, h1, h2⟩ := code_lays (hm.cut hn) hs hm.wd
 refine (lay_ok v W (szL S) w hv hm.w1 hm.wb (by rw [szL_len]; exact hn) hm.sz (by rw [szL_len]; exact hm.pos) _ F h1 h2).mono ?_
 rintro e w' ⟨va, vk, rfl, ho, hb⟩
 rw [sqL_trL, hm.sqT, List.length_map] at ho
 exact ⟨va, vk, by rw [List.length_map], ows_of ho hm.pos, hb⟩
end Go.Proofs.YtolkchkedieppaaGreat
