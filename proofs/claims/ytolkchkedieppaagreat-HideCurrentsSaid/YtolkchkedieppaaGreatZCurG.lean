/- Parse of the reference at the text of a fraction. -/
import Derived.Test.YtolkchkedieppaaGreatZPars2
import Derived.Test.YtolkchkedieppaaGreatZCurA
import Derived.Test.YtolkchkedieppaaGreatZPlainD
import Derived.Test.YtolkchkedieppaaGreatZQShp
import Derived.Test.YtolkchkedieppaaGreatZCurB
import Derived.Test.YtolkchkedieppaaGreatZPlainTr
import Derived.Test.YtolkchkedieppaaGreatZLayB
import Derived.Test.YtolkchkedieppaaGreatZPlainLx
import Derived.Test.YtolkchkedieppaaGreatZLnA
import Derived.Test.YtolkchkedieppaaGreatZSameR
import Derived.Deep.LoopGhost
import Derived.Test.YtolkchkedieppaaGreatZRdB
import Derived.BigQuiet
import Derived.Test.YtolkchkedieppaaGreatZLawO
import Derived.Test.YtolkchkedieppaaGreatZNetB
import Derived.Laws.OwnMore
import Derived.Deep.DeepCutAuto
import Derived.Deep.CutBlock
import Derived.Test.YtolkchkedieppaaGreatZPlainKi
import Derived.Deep.RegionHeld3
import Derived.BigRegion
import Derived.Maps.AppendAt
import Derived.RegionTactic
import Derived.Test.YtolkchkedieppaaGreatZLivH
import Derived.Test.YtolkchkedieppaaGreatZCmpI
set_option linter.unusedVariables false
set_option linter.unusedSimpArgs false
namespace Go.Proofs.YtolkchkedieppaaGreat
open Go.RowKit
attribute [local go_sem ↓] Go.wp_at_zero Go.wp_at_succ
theorem slD_first (f : Nat → Nat) (L p : Nat) (hp : p < L) (h1 : f p = 47) (h2 : ∀ k, k < p → f k ≠ 47) : ∀ j, j ≤ L → L - j ≤ p → slD f L j = p
  | 0, _, h => by omega
  | j + 1, hj, h => by
    simp only [slD]
    split
    · rename_i h3
      rcases Nat.lt_or_ge (L - (j + 1)) p with h4 | h4
      · exact absurd h3 (h2 _ h4)
      · omega
    · rename_i h3
      exact slD_first f L p hp h1 h2 j (by omega) (by
        rcases Nat.lt_or_ge p (L - j) with h4 | h4
        · exfalso; apply h3; rw [show L - (j + 1) = p by omega]; exact h1
        · exact h4)
theorem slD_none (f : Nat → Nat) (L : Nat) (h2 : ∀ k, k < L → f k ≠ 47) : ∀ j, j ≤ L → slD f L j = L
  | 0, _ => rfl
  | j + 1, hj => by
    simp only [slD]
    rw [if_neg (h2 _ (by omega))]
    exact slD_none f L h2 j (by omega)
theorem bts_append {a b : ByteArray} {La Lb : Nat} {fa fb : Nat → Nat} (ha : Bts a La fa) (hb : Bts b Lb fb) : Bts (a ++ b) (La + Lb) (fun i => if i < La then fa i else fb (i - La)) := by
  refine ⟨by rw [ByteArray.size_append, ha.1, hb.1], fun i h => ?_⟩
  dsimp only
  rcases Nat.lt_or_ge i a.size with h1 | h1
  · rw [ByteArray.getElem_append_left h1, if_pos (by rw [← ha.1]; exact h1)]; exact ha.2 i h1
  · have h2 : i - a.size < b.size := by rw [ByteArray.size_append] at h; omega
    rw [ByteArray.getElem_append_right h1, if_neg (by rw [← ha.1]; omega), hb.2 _ h2, ha.1]
theorem bts_one (c : UInt8) : Bts ⟨#[c]⟩ 1 (fun _ => c.toNat) := ⟨rfl, fun i h => by
  have h1 : i = 0 := by have : i < 1 := h; omega
  subst h1; rfl⟩
theorem bts_cut {s : ByteArray} {L : Nat} {f g : Nat → Nat} (hs : Bts s L f) (i j : Nat) (hij : i ≤ j) (hj : j ≤ L) (hg : ∀ k, k < j - i → f (i + k) = g k) : Bts (s.extract i j) (j - i) g := by
  have hz : (s.extract i j).size = j - i := by rw [ByteArray.size_extract, hs.1, Nat.min_eq_left hj]
  refine ⟨hz, fun k h => ?_⟩
  rw [ByteArray.getElem_extract, hs.2 (i + k) (by rw [hs.1]; omega)]
  exact hg k (by omega)
theorem Bts.congr {s : ByteArray} {L : Nat} {f g : Nat → Nat} (hs : Bts s L f) (hg : ∀ k, k < L → f k = g k) : Bts s L g := ⟨hs.1, fun i h => by rw [hs.2 i h]; exact hg i (by rw [← hs.1]; exact h)⟩
/-- the text of p / d, as bytes: o bytes of sign, Lt digits, a slash and Lu digits -/
theorem parse_txt (s : ByteArray) (p : Int) (d : Nat) (w : World) (hs : FracTxt s p d) (hp : MaxD p.natAbs) (hD : MaxD d) (hd : 0 < d) (hg : Nat.gcd p.natAbs d = 1) :
    Calls Tryz.prog 126 #[.string s] w fun e w' => ∃ r, e = .returned (.tuple #[r, .bool true]) ∧ QIs w' r p ((d : Nat) : Int) 1000 ∧ Below w.heap.size w w' := by
  obtain ⟨t, ⟨Lt, hLt, hts, htb⟩, hcase⟩ := hs
  have bt : Bts t Lt (fun i => 48 + d10 p.natAbs (Lt - 1 - i)) := ⟨hts, htb⟩
  have okt := okD_txt hLt hp.lt
  have nut := numD_txt hLt
  have h4t : Lt ≤ 4000 := okt.2.1
  have hpos := hLt.pos
  rcases hcase with ⟨d1, hs⟩ | ⟨d1, u, ⟨Lu, hLu, hus, hub⟩, hs⟩
  · subst d1
    rcases (by omega : p < 0 ∨ 0 ≤ p) with hneg | hge
    · rw [if_pos hneg] at hs
      have b0 : Bts s (1 + Lt) _ := hs ▸ bts_append (bts_one 45) bt
      have b1 := bts_cut b0 1 (1 + Lt) (by omega) (Nat.le_refl _) (g := fun i => 48 + d10 p.natAbs (Lt - 1 - i)) (fun k hk => by
        rw [if_neg (by omega), show 1 + k - 1 = k by omega])
      rw [show 1 + Lt - 1 = Lt by omega] at b1
      have hsz : s.size = 1 + Lt := b0.1
      rw [← hsz] at b1
      have e1 : (s.extract 1 s.size).size = Lt := b1.1
      have hsl := slD_none (fun i => 48 + d10 p.natAbs (Lt - 1 - i)) Lt (fun k _ => (txt_no _ _ _).1) Lt (Nat.le_refl _)
      have b2 := bts_cut b1 0 Lt (Nat.zero_le _) (Nat.le_refl _) (g := fun i => 48 + d10 p.natAbs (Lt - 1 - i)) (fun k hk => by rw [Nat.zero_add])
      refine (parse_mn s (s.extract 1 s.size) ((s.extract 1 s.size).extract 0 Lt) (fun i => 48 + d10 p.natAbs (Lt - 1 - i)) (fun i => 48 + d10 p.natAbs (Lt - 1 - i)) Lt p.natAbs w (by omega) (by omega) ?_ rfl (by rw [e1]; exact b1) (by rw [e1]; exact hsl) rfl b2 okt nut (by omega) (by omega)).mono ?_
      · rw [b0.2 0 (by omega)]; rfl
      · rintro e w' ⟨r, rfl, hr, hb⟩
        refine ⟨r, rfl, ?_, hb⟩
        rw [show p = -((p.natAbs : Nat) : Int) by omega]
        simpa using hr
    · rw [if_neg (by omega)] at hs
      subst hs
      have hsl := slD_none (fun i => 48 + d10 p.natAbs (Lt - 1 - i)) Lt (fun k _ => (txt_no _ _ _).1) Lt (Nat.le_refl _)
      have b2 := bts_cut bt 0 Lt (Nat.zero_le _) (Nat.le_refl _) (g := fun i => 48 + d10 p.natAbs (Lt - 1 - i)) (fun k hk => by rw [Nat.zero_add])
      refine (parse_pn s (s.extract 0 Lt) (fun i => 48 + d10 p.natAbs (Lt - 1 - i)) (fun i => 48 + d10 p.natAbs (Lt - 1 - i)) Lt p.natAbs w (by omega) (fun h0 => ?_) (by rw [hts]; exact bt) (by rw [hts]; exact hsl) rfl b2 okt nut (by omega)).mono ?_
      · rw [bt.2 0 h0]; exact (txt_no _ _ _).2
      · rintro e w' ⟨r, rfl, hr, hb⟩
        refine ⟨r, rfl, ?_, hb⟩
        rw [show p = ((p.natAbs : Nat) : Int) by omega]
        simpa using hr
  · have bu : Bts u Lu (fun i => 48 + d10 d (Lu - 1 - i)) := ⟨hus, hub⟩
    have oku := okD_txt hLu hD.lt
    have nuu := numD_txt hLu
    have h4u : Lu ≤ 4000 := oku.2.1
    have btu := bts_append bt (bts_append (bts_one 47) bu)
    rcases (by omega : p < 0 ∨ 0 ≤ p) with hneg | hge
    · rw [if_pos hneg, ByteArray.append_assoc] at hs
      have b0 : Bts s (1 + (Lt + (1 + Lu))) _ := hs ▸ bts_append (bts_one 45) btu
      have hsz : s.size = 1 + (Lt + (1 + Lu)) := b0.1
      have b1 := bts_cut b0 1 (1 + (Lt + (1 + Lu))) (by omega) (Nat.le_refl _) (g := fun i => if i < Lt then 48 + d10 p.natAbs (Lt - 1 - i) else if i - Lt < 1 then 47 else 48 + d10 d (Lu - 1 - (i - Lt - 1))) (fun k hk => by
        rw [if_neg (by omega), show 1 + k - 1 = k by omega]
        rfl)
      rw [show 1 + (Lt + (1 + Lu)) - 1 = Lt + (1 + Lu) by omega, ← hsz] at b1
      have e1 : (s.extract 1 s.size).size = Lt + (1 + Lu) := b1.1
      have hsl := slD_first (fun i => if i < Lt then 48 + d10 p.natAbs (Lt - 1 - i) else if i - Lt < 1 then 47 else 48 + d10 d (Lu - 1 - (i - Lt - 1))) (Lt + (1 + Lu)) Lt (by omega) (by rw [if_neg (by omega), if_pos (by omega)]) (fun k hk => by rw [if_pos hk]; exact (txt_no _ _ _).1) (Lt + (1 + Lu)) (Nat.le_refl _) (by omega)
      have b2 := bts_cut b1 0 Lt (Nat.zero_le _) (by omega) (g := fun i => 48 + d10 p.natAbs (Lt - 1 - i)) (fun k hk => by rw [Nat.zero_add, if_pos (by omega)])
      have b3 := bts_cut b1 (Lt + 1) (Lt + (1 + Lu)) (by omega) (Nat.le_refl _) (g := fun i => 48 + d10 d (Lu - 1 - i)) (fun k hk => by rw [if_neg (by omega), if_neg (by omega), show Lt + 1 + k - Lt - 1 = k by omega])
      rw [show Lt + (1 + Lu) - (Lt + 1) = Lu by omega] at b3
      refine (parse_ms s (s.extract 1 s.size) ((s.extract 1 s.size).extract 0 Lt) ((s.extract 1 s.size).extract (Lt + 1) (Lt + (1 + Lu))) _ (fun i => 48 + d10 p.natAbs (Lt - 1 - i)) (fun i => 48 + d10 d (Lu - 1 - i)) Lt p.natAbs Lu d w (by omega) (by omega) ?_ rfl (by rw [e1]; exact b1) (by rw [e1]; exact hsl) rfl b2 okt nut (by omega) (by rw [e1]) b3 oku nuu (by omega) hg (by omega)).mono ?_
      · rw [b0.2 0 (by omega)]; rfl
      · rintro e w' ⟨r, rfl, hr, hb⟩
        refine ⟨r, rfl, ?_, hb⟩
        rw [show p = -((p.natAbs : Nat) : Int) by omega]
        simpa using hr
    · rw [if_neg (by omega)] at hs
      have b1 : Bts s (Lt + (1 + Lu)) (fun i => if i < Lt then 48 + d10 p.natAbs (Lt - 1 - i) else if i - Lt < 1 then 47 else 48 + d10 d (Lu - 1 - (i - Lt - 1))) := hs ▸ btu
      have hsz : s.size = Lt + (1 + Lu) := b1.1
      have hsl := slD_first (fun i => if i < Lt then 48 + d10 p.natAbs (Lt - 1 - i) else if i - Lt < 1 then 47 else 48 + d10 d (Lu - 1 - (i - Lt - 1))) (Lt + (1 + Lu)) Lt (by omega) (by rw [if_neg (by omega), if_pos (by omega)]) (fun k hk => by rw [if_pos hk]; exact (txt_no _ _ _).1) (Lt + (1 + Lu)) (Nat.le_refl _) (by omega)
      have b2 := bts_cut b1 0 Lt (Nat.zero_le _) (by omega) (g := fun i => 48 + d10 p.natAbs (Lt - 1 - i)) (fun k hk => by rw [Nat.zero_add, if_pos (by omega)])
      have b3 := bts_cut b1 (Lt + 1) (Lt + (1 + Lu)) (by omega) (Nat.le_refl _) (g := fun i => 48 + d10 d (Lu - 1 - i)) (fun k hk => by rw [if_neg (by omega), if_neg (by omega), show Lt + 1 + k - Lt - 1 = k by omega])
      rw [show Lt + (1 + Lu) - (Lt + 1) = Lu by omega] at b3
      refine (parse_ps s (s.extract 0 Lt) (s.extract (Lt + 1) (Lt + (1 + Lu))) _ (fun i => 48 + d10 p.natAbs (Lt - 1 - i)) (fun i => 48 + d10 d (Lu - 1 - i)) Lt p.natAbs Lu d w (by omega) (fun h0 => ?_) (by rw [hsz]; exact b1) (by rw [hsz]; exact hsl) rfl b2 okt nut (by omega) (by rw [hsz]) b3 oku nuu (by omega) hg).mono ?_
      · rw [b1.2 0 h0]; dsimp only; rw [if_pos (by omega)]; exact (txt_no _ _ _).2
      · rintro e w' ⟨r, rfl, hr, hb⟩
        refine ⟨r, rfl, ?_, hb⟩
        rw [show p = ((p.natAbs : Nat) : Int) by omega]
        simpa using hr
end Go.Proofs.YtolkchkedieppaaGreat

/- append onto a row of the call's own that holds no integers: the reference's numbers are kept. -/
namespace Go.Proofs.YtolkchkedieppaaGreat
open Go.RowKit
/-- no cell of v's own block is an integer -/
def KindZ (w : World) (v : Value) : Prop := ∀ g, v.ownBlock = some g → ∀ o x, w.cell? ⟨g, o, none⟩ = some x → NoInt x
theorem KindZ.below {w w' : World} {v : Value} {B : Nat} (h : KindZ w v) (hb : Below B w w') (hl : ∀ g, v.ownBlock = some g → g < B) : KindZ w' v := fun g hg o x hx => by
  rw [hb.cell (p := ⟨g, o, none⟩) (hl g hg)] at hx
  exact h g hg o x hx
/-- a number is kept by what writes into such a row alone -/
theorem dg_keepz {w w' : World} {u v : Value} {x : Nat} (h : Dg w u x) (hk : KindZ w v) (hg : w.grownBy w' v.ownBlock) : Dg w' u x := by
  obtain ⟨a, b, o, c, rfl, hs⟩ := h
  refine ⟨a, b, o, c, rfl, ⟨hs.cap, hs.at_, fun q => Nat.lt_of_lt_of_le (hs.lt q) hg.size, fun i hi => ?_, hs.nc⟩⟩
  have hb := hs.lt (by omega)
  have hc := hs.cell i hi
  rw [← hc]
  unfold World.cell?
  rw [hg.block b hb (fun e => hk b e.symm _ _ hc _ _ rfl)]
theorem ZIs.keep {w w' : World} {u v : Value} {z : Int} {m : Nat} (h : ZIs w u z m) (hk : KindZ w v) (hg : w.grownBy w' v.ownBlock) : ZIs w' u z m := by
  obtain ⟨x, h1, h2, h3⟩ := h
  exact ⟨x, h1, dg_keepz h2 hk hg, h3⟩
theorem QIs.keep {w w' : World} {u v : Value} {n d : Int} {m : Nat} (h : QIs w u n d m) (hk : KindZ w v) (hg : w.grownBy w' v.ownBlock) : QIs w' u n d m := by
  obtain ⟨s1, u1, s2, u2, h0, h1, h2, h3⟩ := h
  exact ⟨s1, u1, s2, u2, h0, h1.keep hk hg, h2.keep hk hg, h3⟩
theorem noInt_zero {z : Array Value} {n : Nat} (hz : ∀ u ∈ z.toList, NoInt u) (h0 : 0 < z.size) : ∀ u ∈ (Builtin.zeroCells z n).toList, NoInt u := fun u hu => by
  unfold Builtin.zeroCells at hu
  simp at hu
  obtain ⟨a, ha, rfl⟩ := hu
  have hlt : a % z.size < z.size := Nat.mod_lt _ h0
  rw [getElem!_pos z (a % z.size) hlt]
  exact hz _ (by simp)
section
variable {P : Program} {w : World}
theorem run_append_kindz (base : Nat) (t ty e : TypeId) (i : TypeInfo) (z : Value) (size bytes : Nat) (ht : P.underlying t = some (.slice e)) (hi : P.info? e = some i) (hz : i.zero = some z)
    (hsize : i.size = size) (hby : i.bytes = bytes) (hzs : z.cells.size = size) (hsz : 0 < size)
    (v : Value) (n : Nat) (xs : List Value) (hown : w.ownsRow base e size v n xs) (hkind : KindZ w v) (hzk : ∀ u ∈ z.cells.toList, NoInt u)
    (a : Addr) (m c : Nat) (news : List Value) (hl : news.length = m * size) (hnews : ∀ j u, news[j]? = some u → w.cell? (a.add j) = some u) (h1 : ∀ u ∈ news, u.oneCell' = true) (hnk : ∀ u ∈ news, NoInt u)
    (h63 : n + m ≤ maxLen) (hbytes : (n + m) * bytes ≤ 140737488355328) (hbase : base ≤ w.heap.size) (hm : 0 < m) :
    ∃ v' w', (Builtin.append_ #[t, t] ty #[v, .slice (some a) m c]).run P w = .ok v' w' ∧ w'.ownsRow base e size v' (n + m) (xs ++ news) ∧ w.grownBy w' v.ownBlock ∧
      (v'.ownBlock = v.ownBlock ∨ v'.ownBlock = some w.heap.size) ∧ KindZ w' v' := by
  obtain ⟨v', w', hr, h2, h3, _, h5⟩ := run_append_own_at (P := P) w base t ty e i z size bytes ht hi hz hsize hby hzs hsz v n xs hown a m c news hl hnews h1 h63 hbytes hbase
  refine ⟨v', w', hr, h2, h3, h5, ?_⟩
  subst hsize
  subst hby
  have hsmall : n + m ≤ 9223372036854775807 := by simp only [maxLen] at h63; omega
  have hnew : ∀ (l : List Value) (cap : Nat), (∀ u ∈ l, NoInt u) → KindZ (w.drew.alloc (.cells (l.toArray ++ Builtin.zeroCells z.cells cap) e)) (.slice (some ⟨w.heap.size, 0, none⟩) (n + m) (cap + (n + m))) := fun l cap hlk g hg o x hx => by
    have : w.heap.size = g := Option.some.inj hg
    subst this
    have hcell : (w.drew.alloc (.cells (l.toArray ++ Builtin.zeroCells z.cells cap) e)).cell? ⟨w.heap.size, o, none⟩ = (l.toArray ++ Builtin.zeroCells z.cells cap)[o]? := cell_of (t := e) (fr := (0, 0)) (heap_alloc_new w.drew _)
    rw [hcell] at hx
    have hmem : x ∈ (l.toArray ++ Builtin.zeroCells z.cells cap).toList := by
      rw [← Array.getElem?_toList] at hx
      exact List.mem_of_getElem? hx
    rw [Array.toList_append] at hmem
    rcases List.mem_append.1 hmem with h | h
    · exact hlk x (by simpa using h)
    · exact noInt_zero hzk (by omega) x h
  have hxk : ∀ u ∈ xs, NoInt u := fun u hu => by
    obtain ⟨j, hj, rfl⟩ := List.mem_iff_getElem.1 hu
    rcases hob : v.ownBlock with _ | g
    · rcases hown.2 with ⟨rfl, rfl⟩ | ⟨g, cap, cur, rfl, _⟩
      · have := hown.1; omega
      · cases hob
    · have hc := hown.cells hob j xs[j] (by simp)
      rw [add_at, Nat.zero_add] at hc
      exact hkind g hob j _ hc
  rcases hown.2 with ⟨rfl, rfl⟩ | ⟨g, cap, cur, rfl, hbg, hg, hnc, hcm, hcs, htake⟩
  · have hr2 := run_append_nil (P := P) w t ty e i z ht hi hz a m c news hl hnews hm (by omega) (by have hb := hbytes; simp only [Nat.zero_add] at hb; omega)
    rw [hr2] at hr
    injection hr with e1 e2
    subst e1; subst e2
    have h := hnew news (grownCap w m 0 e - m) hnk
    intro g hg o x hx
    exact h g hg o x hx
  · by_cases hroom : n + m ≤ cap
    · have hfit : n * i.size + news.length ≤ cur.size := by rw [hl, hcs, ← Nat.add_mul]; exact Nat.mul_le_mul_right _ hroom
      have hr2 := run_append_room (P := P) w t ty e i ht hi g n cap cur hg a m c news hl hnews h1 hroom hfit
      rw [hr2] at hr
      injection hr with e1 e2
      subst e1; subst e2
      intro g' hg' o x hx
      have : g = g' := Option.some.inj hg'
      subst this
      rw [cell_of (setRow_heap w g cur _ e _ hg)] at hx
      have hmem : x ∈ (cur.toList.take (n * i.size) ++ news ++ cur.toList.drop (n * i.size + news.length)) := by
        rw [List.getElem?_toArray] at hx
        exact List.mem_of_getElem? hx
      have hcur : ∀ u ∈ cur.toList, NoInt u := fun u hu => by
        obtain ⟨j, hj, rfl⟩ := List.mem_iff_getElem.1 hu
        refine hkind g rfl j _ ?_
        rw [cell_of hg]
        simp
      rcases List.mem_append.1 hmem with h | h
      · rcases List.mem_append.1 h with h | h
        · exact hcur x (List.mem_of_mem_take h)
        · exact hnk x h
      · exact hcur x (List.mem_of_mem_drop h)
    · have holds : ∀ j u, xs[j]? = some u → w.cell? ((⟨g, 0, none⟩ : Addr).add j) = some u := hown.cells (g := g) rfl
      have hr2 := run_append_grow (P := P) w t ty e i z ht hi hz ⟨g, 0, none⟩ n cap xs hown.1 holds a m c news hl hnews (by omega) (by omega) (growslice_fits (by omega) hbytes)
      rw [hr2] at hr
      injection hr with e1 e2
      subst e1; subst e2
      have h := hnew (xs ++ news) (grownCap w (n + m) cap e - (n + m)) (fun u hu => (List.mem_append.1 hu).elim (hxk u) (hnk u))
      intro g' hg' o x hx
      refine h g' hg' o x ?_
      simpa using hx
theorem wpList_append_kindz {ops : Array Oper} {rest : List Oper} {o : Oper} {a : Act} {Q : Exit → Act → World → Prop} (hgd : o.guard = none) (s x : Operand) (t : TypeId)
    (ho : o.op = .call { callee := .builtin .append, args := #[s, x], argTypes := #[t, t] })
    (base : Nat) (e : TypeId) (i : TypeInfo) (z : Value) (size bytes : Nat) (ht : P.underlying t = some (.slice e)) (hi : P.info? e = some i) (hz : i.zero = some z)
    (hsize : i.size = size) (hby : i.bytes = bytes) (hzs : z.cells.size = size) (hsz : 0 < size)
    (v : Value) (n : Nat) (xs : List Value) (hs : a.eval s = v) (hown : w.ownsRow base e size v n xs) (hkind : KindZ w v) (hzk : ∀ u ∈ z.cells.toList, NoInt u)
    (ad : Addr) (m c : Nat) (news : List Value) (hx : a.eval x = .slice (some ad) m c) (hl : news.length = m * size) (hnews : ∀ j u, news[j]? = some u → w.cell? (ad.add j) = some u) (h1 : ∀ u ∈ news, u.oneCell' = true) (hnk : ∀ u ∈ news, NoInt u)
    (h63 : n + m ≤ maxLen) (hbytes : (n + m) * bytes ≤ 140737488355328) (hbase : base ≤ w.heap.size) (hm : 0 < m)
    (h : ∀ v' w', w'.ownsRow base e size v' (n + m) (xs ++ news) → w.grownBy w' v.ownBlock → (v'.ownBlock = v.ownBlock ∨ v'.ownBlock = some w.heap.size) → KindZ w' v' → wpList P ops Q rest (a.put o.dst v') w') : wpList P ops Q (o :: rest) a w := by
  refine wpList_plain hgd fun K hK => ?_
  obtain ⟨v', w', hr, h2, h3, h5, h6⟩ := run_append_kindz (P := P) base t o.type e i z size bytes ht hi hz hsize hby hzs hsz v n xs hown hkind hzk ad m c news hl hnews h1 hnk h63 hbytes hbase hm
  unfold Oper.wp execOp
  simp only [ho, resolve, invoke, builtin, Sem.run_bind, Sem.run_pure, Result.andThen_ok, List.map_toArray, List.map_cons, List.map_nil, hs, hx, hr]
  exact hK _ _ (h v' w' h2 h3 h5 h6)
end
/-- r numbers of the reference, gathered by append -/
structure QRow (w : World) (base : Nat) (v : Value) (r : Nat) (p d : Nat → Int) (K : Nat) (xs : List Value) : Prop where
  kind : KindZ w v
  own : w.ownsRow base 59 4 v r xs
  val : ∀ j, j < r → ∃ s a m c t a2 m2 c2, xs[j * 4]? = some (.bool s) ∧ xs[j * 4 + 1]? = some (.slice a m c) ∧ xs[j * 4 + 2]? = some (.bool t) ∧ xs[j * 4 + 3]? = some (.slice a2 m2 c2) ∧ QIs w (.agg #[.bool s, .slice a m c, .bool t, .slice a2 m2 c2]) (p j) (d j) K
variable {w w' : World} {base r K : Nat} {v : Value} {p d : Nat → Int} {xs : List Value}
theorem QRow.nil (w : World) (base : Nat) (p d : Nat → Int) (K : Nat) (v : Value) (h : w.ownsRow base 59 4 v 0 []) (hk : KindZ w v) : QRow w base v 0 p d K [] := ⟨hk, h, fun j hj => by omega⟩
theorem QRow.below (h : QRow w base v r p d K xs) (hb : Below w.heap.size w w') : QRow w' base v r p d K xs :=
  ⟨h.kind.below hb (fun g hg => (h.own.lt g hg).2), own_kept h.own hb, fun j hj => by
    obtain ⟨s, a, m, c, t, a2, m2, c2, h1, h2, h3, h4, h5⟩ := h.val j hj
    exact ⟨s, a, m, c, t, a2, m2, c2, h1, h2, h3, h4, h5.mono hb (Nat.le_refl _)⟩⟩
theorem QRow.push {v' : Value} {x y : Int} {s t : Bool} {a a2 : Option Addr} {m c m2 c2 : Nat} (h : QRow w base v r p d K xs) (hx : QIs w (.agg #[.bool s, .slice a m c, .bool t, .slice a2 m2 c2]) x y K) (hq : p r = x) (hq2 : d r = y)
    (hgrow : w.grownBy w' v.ownBlock) (hown : w'.ownsRow base 59 4 v' (r + 1) (xs ++ [.bool s, .slice a m c, .bool t, .slice a2 m2 c2])) (hkind : KindZ w' v') : QRow w' base v' (r + 1) p d K (xs ++ [.bool s, .slice a m c, .bool t, .slice a2 m2 c2]) := by
  have hl := h.own.1
  refine ⟨hkind, hown, fun j hj => ?_⟩
  by_cases e : j < r
  · obtain ⟨s', a', m', c', t', a2', m2', c2', h1, h2, h3, h4, h5⟩ := h.val j e
    exact ⟨s', a', m', c', t', a2', m2', c2', by rw [List.getElem?_append_left (by omega)]; exact h1, by rw [List.getElem?_append_left (by omega)]; exact h2, by rw [List.getElem?_append_left (by omega)]; exact h3, by rw [List.getElem?_append_left (by omega)]; exact h4, h5.keep h.kind hgrow⟩
  · obtain rfl : j = r := by omega
    refine ⟨s, a, m, c, t, a2, m2, c2, ?_, ?_, ?_, ?_, by rw [hq, hq2]; exact hx.keep h.kind hgrow⟩
    · rw [List.getElem?_append_right (by omega), hl, Nat.sub_self]; rfl
    · rw [List.getElem?_append_right (by omega), hl, show j * 4 + 1 - j * 4 = 1 by omega]; rfl
    · rw [List.getElem?_append_right (by omega), hl, show j * 4 + 2 - j * 4 = 2 by omega]; rfl
    · rw [List.getElem?_append_right (by omega), hl, show j * 4 + 3 - j * 4 = 3 by omega]; rfl
theorem QRow.alloc (h : QRow w base v r p d K xs) (o : Obj) : QRow (w.alloc o) base v r p d K xs := h.below ((Below.refl w.heap.size w).alloc (Nat.le_refl _) o)
theorem noInt_4 (s t : Bool) (a a2 : Option Addr) (m c m2 c2 : Nat) : ∀ u ∈ [Value.bool s, .slice a m c, .bool t, .slice a2 m2 c2], NoInt u := fun u hu => by
  simp at hu
  rcases hu with rfl | rfl | rfl | rfl <;> exact fun k z h => by cases h
/-- a slice of n numbers of the reference, as read -/
structure QSl (w : World) (v : Value) (n : Nat) (p d : Nat → Int) (K : Nat) : Prop where
  val : ∃ g cap, v = .slice (some ⟨g, 0, none⟩) n cap ∧ n ≤ cap ∧ g < w.heap.size ∧ ∀ j, j < n → ∃ s a m c t a2 m2 c2, w.cell? ⟨g, j * 4, none⟩ = some (.bool s) ∧ w.cell? ⟨g, j * 4 + 1, none⟩ = some (.slice a m c) ∧ w.cell? ⟨g, j * 4 + 2, none⟩ = some (.bool t) ∧ w.cell? ⟨g, j * 4 + 3, none⟩ = some (.slice a2 m2 c2) ∧ QIs w (.agg #[.bool s, .slice a m c, .bool t, .slice a2 m2 c2]) (p j) (d j) K
theorem QRow.sl (h : QRow w base v r p d K xs) (h0 : 0 < r) : QSl w v r p d K := by
  have h1 := h.own
  rcases h1.2 with ⟨_, e⟩ | ⟨g, cap, cur, hv, hbg, hg, hcap, hml, hsz, htk⟩
  · omega
  · subst hv
    have hlt : g < w.heap.size := (Array.getElem?_eq_some_iff.1 hg).1
    have hc := h1.cells (g := g) rfl
    refine ⟨g, cap, rfl, by omega, hlt, fun j hj => ?_⟩
    obtain ⟨s', a', m', c', t', a2', m2', c2', k1, k2, k3, k4, k5⟩ := h.val j hj
    have k : ∀ i u, xs[i]? = some u → w.cell? ⟨g, i, none⟩ = some u := fun i u hu => by
      have := hc i u hu
      rw [add_at, Nat.zero_add] at this; exact this
    exact ⟨s', a', m', c', t', a2', m2', c2', k _ _ k1, k _ _ k2, k _ _ k3, k _ _ k4, k5⟩
end Go.Proofs.YtolkchkedieppaaGreat

/- The reference's reading of the texts of numbers: Valid, Of, Nums, Qs; nums of the laws. -/
namespace Go.Proofs.YtolkchkedieppaaGreat
open Go.RowKit
attribute [local go_sem ↓] Go.wp_at_zero Go.wp_at_succ
/-- a text of the number q, of at most 4000 digits in each part -/
structure TxtQ (s : ByteArray) (q : Rat) : Prop where
  txt : FracTxt s q.num q.den
  mn : MaxD q.num.natAbs
  md : MaxD q.den
theorem parse_q (s : ByteArray) (q : Rat) (w : World) (h : TxtQ s q) :
    Calls Tryz.prog 126 #[.string s] w fun e w' => ∃ s1 a n c t b l k, e = .returned (.tuple #[.agg #[.bool s1, .slice a n c, .bool t, .slice b l k], .bool true]) ∧ Hid (QIs w' (.agg #[.bool s1, .slice a n c, .bool t, .slice b l k]) q.num ((q.den : Nat) : Int) 1000) ∧ Hid (Below w.heap.size w w') := by
  refine (parse_txt s q.num q.den w h.txt h.mn h.md q.den_pos q.reduced).mono ?_
  rintro e w' ⟨r, rfl, hr, hb⟩
  obtain ⟨s1, a, n, c, t, b, l, k, rfl, -, -, -⟩ := hr.shape
  exact ⟨s1, a, n, c, t, b, l, k, rfl, Lib.hid hr, Lib.hid hb⟩
theorem QIs.store4 {w : World} {v : Value} {p d : Int} {m b : Nat} (h : QIs w v p d m) (O : Own4 w b (.bool false) (.slice none 0 0) (.bool false) (.slice none 0 0)) (u0 u1 u2 u3 : Value) :
    QIs ((((w.setCell ⟨b, 0, none⟩ u0).setCell ⟨b, 1, none⟩ u1).setCell ⟨b, 2, none⟩ u2).setCell ⟨b, 3, none⟩ u3) v p d m := by
  obtain ⟨s1, u1, s2, u2, rfl, h1, h2, h3⟩ := h
  exact ⟨s1, u1, s2, u2, rfl, h1.store4 O _ _ _ _, h2.store4 O _ _ _ _, h3⟩
theorem QIs.alloc {w : World} {v : Value} {p d : Int} {m : Nat} (h : QIs w v p d m) (o : Obj) : QIs (w.alloc o) v p d m := h.mono ((Below.refl w.heap.size w).alloc (Nat.le_refl _) o) (Nat.le_refl _)
set_option maxHeartbeats 1000000 in
theorem of_any (s : ByteArray) (q : Rat) (w : World) (h : TxtQ s q) :
    Calls Tryz.prog 78 #[.string s] w fun e w' => ∃ s1 a n c t b l k, e = .returned (.agg #[.bool s1, .slice a n c, .bool t, .slice b l k]) ∧ Hid (QIs w' (.agg #[.bool s1, .slice a n c, .bool t, .slice b l k]) q.num ((q.den : Nat) : Int) 1000) ∧ Hid (Below w.heap.size w w') := by
  have H := Lib.hid h
  clear h
  have O4 := Lib.hid (own4_new w w.heap.size rfl (.bool false) (.slice none 0 0) (.bool false) (.slice none 0 0) 59)
  have KW := Lib.hid ((Below.refl w.heap.size w).alloc (Nat.le_refl _) (.cells #[.bool false, .slice none 0 0, .bool false, .slice none 0 0] 59))
  go_enter Tryz.func78, Tryz.ntmps78
  go_wp2_with (go_at_call 126; (with_reducible refine (parse_q s q _ H.out).mono ?_); rintro e w1 ⟨s1, a, n, c, t, b, l, k, rfl, HQ, hb⟩; have O4 := Lib.hid (O4.out.below hb.out O4.out.lt); have KW := Lib.hid (KW.out.trans (hb.out.mono KW.out.size)); have n1 : w.heap.size < w1.heap.size := (by have := hb.out.size; simp at this; omega); obtain ⟨x0, x1, x2, x3, xf, xl⟩ := O4.out)
  refine bodyPost_ret (v := .agg #[.bool s1, .slice a n c, .bool t, .slice b l k]) (by simp [results, Tryz.results78, go_sem, x0, x1, x2, x3, xf, xl, n1]) rfl ?_
  exact ⟨_, _, _, _, _, _, _, _, rfl, Lib.hid ((HQ.out.store4 O4.out _ _ _ _).alloc _), Lib.hid ((below_set4q KW.out (Nat.le_refl _) _ _ _ _).alloc (below_set4q KW.out (Nat.le_refl _) _ _ _ _).size _)⟩
/-- texts of n numbers in memory -/
def Strs (w : World) (v : Value) (n : Nat) (ss : Nat → ByteArray) : Prop := Sl w v n (fun j => .string (ss j))
theorem num_s : Tryz.prog.underlying 49 = some (.slice (Tryz.prog.elem 49)) := by kernel_rfl
theorem num_z (W : World) : (sizeOf (Tryz.prog.elem 49)).run Tryz.prog W = .ok 1 W := by kernel_rfl
theorem ixN {w : World} {a : Option Addr} {b o c n : Nat} {g : Nat → Value} (h : IsSl w a b o c n g) (i d : Nat) (hi : i < n) (W : World) :
   (Instr.indexAt 49 (.slice a n d) (.int .i64 (i : Int))).run Tryz.prog W = .ok (.pointer (some ⟨b, o + i, none⟩)) W :=
  run_indexAt_opt 49 num_s num_z a b o n d (fun q => h.at_ q) .i64 i (by omega) (by omega) W
structure TxtQs (n : Nat) (q : Nat → Rat) (ss : Nat → ByteArray) : Prop where
  txt : ∀ j, j < n → TxtQ (ss j) (q j)
end Go.Proofs.YtolkchkedieppaaGreat

/- Network, Currents and Resistance of a cut, in one shape; the reference's Lay of a cut. -/
namespace Go.Proofs.YtolkchkedieppaaGreat
open Go.RowKit
theorem pairRow2 {w : World} {base n : Nat} {va : Option Addr} {vk : Nat} {P : List (Int × Int)} (h : w.ownsRow base 40 2 (.slice va n vk) n (prL P)) (hl : P.length = n) (h0 : 0 < n) :
    ∃ g, va = some ⟨g, 0, none⟩ ∧ PrR w g 0 P ∧ g < w.heap.size := by
  subst hl
  obtain ⟨g, c, hv, _, _⟩ := h.form (by omega)
  injection hv with u1 u2 u3
  subst u1; subst u3
  exact ⟨g, rfl, prR_own h⟩
theorem strs_own2 {w : World} {base n : Nat} {v : Value} {ss : Nat → ByteArray} (h : w.ownsRow base 52 1 v n (strL ss n)) (h0 : 0 < n) : Strs w v n ss := by
  obtain ⟨b, c, rfl, hb, hl⟩ := h.form h0
  exact ⟨_, b, 0, c, rfl, ⟨own_cap h, fun _ => rfl, fun _ => (h.lt b rfl).2, fun i hi => by rw [Nat.zero_add, h.cellAt i (by omega)]; exact strL_get ss n i hi, fun e => by cases e⟩⟩
end Go.Proofs.YtolkchkedieppaaGreat

/- Currents and Resistance of any valid network. -/
namespace Go.Proofs.YtolkchkedieppaaGreat
open Go.RowKit
attribute [local go_sem ↓] Go.wp_at_zero Go.wp_at_succ
theorem currents_net (N : Nat) (W : List (Int × Int)) (cc : Nat → Int) (D g c : Nat) (w : World) (h : NetOK (N : Int) W N) (hf : FrcZ W.length (curQ W (potQ N (potT N W))) cc D) (hW : PrR w g 0 W) (hg : g < w.heap.size) :
    Calls Tryz.prog 25 #[.int .i64 (N : Nat), .slice (some ⟨g, 0, none⟩) W.length c] w fun e w' => ∃ va vk ss, e = .returned (.tuple #[.slice va W.length vk, .int .i64 0]) ∧
      TxtQs W.length (fun k => (((cc k / ((gC (fun k => (cc k).natAbs) W.length : Nat) : Int) : Int)) : Rat)) ss ∧ Strs w' (.slice va W.length vk) W.length ss ∧ Below w.heap.size w w' := by
  have hc := currents_any g c N W (potT N W) 33554432 2 2 w hW hg h.pos h.l h.n2 h.n25 h.ok h.ne h.con (net_ht h.n2 h.n25 h.l h.ok h.con h.ne) (by decide) (by decide) (by decide) hf.curOK
  refine hc.mono ?_
  rintro e w' ⟨va, vk, ss, rfl, ht, ho, hb⟩
  have hd := hf.curOK.d
  refine ⟨va, vk, ss, rfl, ⟨fun j hj => ?_⟩, strs_own2 ho h.pos, hb⟩
  have h1 := ht.txt j hj
  have h2 := hd j hj
  rw [hf.ans hj] at h1 h2
  exact ⟨h1, h2.1, h2.2⟩
theorem pot_small {N : Nat} {W : List (Int × Int)} {n : Int} (h : NetOK n W N) : (potT N W 0).num.natAbs ≤ 16777216 ∧ (potT N W 0).den ≤ 16777216 := by
  obtain ⟨D, e1, hD⟩ := nT_nat N W.length (wA W) (wB W)
  obtain ⟨c, x1, x2⟩ := nF_nat N W.length (wA W) (wB W) (N - 1) 0
  have hp : 2 ^ W.length ≤ 16777216 := Nat.le_trans (Nat.pow_le_pow_right (by decide) h.l) (by decide)
  have hpos := nT_pos (gra_of h.n2 h.ok) (conn_con h.con)
  have hD1 : 1 ≤ D := by
    rcases Nat.eq_zero_or_pos D with e | e
    · rw [e1, e] at hpos; exact absurd hpos (by decide)
    · exact e
  have := lowest_le (w := potT N W 0) (p := (c : Int)) (q := (D : Int)) (by omega) (by
    unfold potT
    rw [e1, x1, Rat.div_def]
    have := Rat.inv_mul_cancel _ (natQ_ne hD1)
    have e2 : (((D : Nat) : Int) : Rat) = ((D : Nat) : Rat) := rfl
    have e3 : (((c : Nat) : Int) : Rat) = ((c : Nat) : Rat) := rfl
    rw [e2, e3]
    grind)
  omega
theorem pot_maxD {N : Nat} {W : List (Int × Int)} {n : Int} (h : NetOK n W N) : MaxD (potT N W 0).num.natAbs ∧ MaxD (potT N W 0).den := by
  have := pot_small h
  exact ⟨maxD_of (e := 8) (by omega) (by decide), maxD_of (e := 8) (by omega) (by decide)⟩
set_option maxHeartbeats 4000000 in
set_option maxRecDepth 100000 in
theorem resistance_net (N : Nat) (W : List (Int × Int)) (g c : Nat) (w : World) (h : NetOK (N : Int) W N) (hW : PrR w g 0 W) (hg : g < w.heap.size) :
    Calls Tryz.prog 26 #[.int .i64 (N : Nat), .slice (some ⟨g, 0, none⟩) W.length c] w fun e w' => ∃ s, e = .returned (.tuple #[.string s, .int .i64 0]) ∧
      FracTxt s (potT N W 0).num (potT N W 0).den ∧ Below w.heap.size w w' := by
  have hht := heights_any g c N W (potT N W) 33554432 2 w hW hg h.l h.n2 h.n25 h.ok h.ne h.con (net_ht h.n2 h.n25 h.l h.ok h.con h.ne)
  have h2 := h.n2
  have HN := Lib.hid (pot_maxD h)
  have HHT := Lib.hid hht
  obtain ⟨x, hx⟩ : ∃ x, x = potT N W := ⟨_, rfl⟩
  rw [← hx] at HHT HN ⊢
  clear hht h hW hx
  go_enter Tryz.func26, Tryz.ntmps26
  go_wp2_with (first
    | (go_at_call 62; go_loud ((with_reducible refine HHT.out.mono ?_); rintro e w1 ⟨g1, c1, rfl, _, hr, hb⟩; obtain ⟨s1, a1, n1, c2, b1, m1, d1, P1, R1⟩ := hr.cell 0 (by omega); have y0 := P1.c0; have y1 := P1.c1; have y2 := P1.c2; have y3 := P1.c3; have RA := Lib.hid (R1 trivial); have KB := Lib.hid hb; have ix0 := fun X => rowIx g1 N c1 0 (by omega) X; simp only [Nat.zero_mul, Nat.zero_add, Int.natCast_zero] at y0 y1 y2 y3 ix0; rw [if_pos (show 0 < N - 1 by omega)] at RA; clear hr hb P1 R1))
    | (go_at_call 74; go_loud ((with_reducible refine (rat_num_any _ (x 0) 2 _ RA.out (by omega) HN.out.1 HN.out.2).mono ?_); rintro e w2 ⟨s, rfl, ht, hb⟩; have HT := Lib.hid ht; have KB := Lib.hid (KB.out.trans (hb.mono KB.out.size)); clear ht hb)))
  go_ret2
  exact ⟨_, rfl, HT.out, KB.out⟩
end Go.Proofs.YtolkchkedieppaaGreat
