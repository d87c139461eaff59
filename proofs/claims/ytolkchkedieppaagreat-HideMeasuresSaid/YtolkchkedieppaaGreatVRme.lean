/- Perfect of hide: squares that are no cut; the plain law of Sort and Compact. -/
import Derived.Test.YtolkchkedieppaaGreatVRpf
import Derived.Lib.OwnBridge
import Derived.Lib.RowBridge
import Derived.Sort.Grow
import Derived.Test.YtolkchkedieppaaGreatVLast
set_option linter.unusedVariables false
set_option linter.unusedSimpArgs false
namespace Go.Proofs.YtolkchkedieppaaGreat
open Go.RowKit
attribute [local go_sem ↓] Go.wp_at_zero Go.wp_at_succ
theorem sortI_none (p : Option Addr) (cap : Nat) (w : World) : Calls Tryz.prog 98 #[.slice p 0 cap] w fun e w' => e = .returned (.tuple #[]) ∧ w' = w := Any.slices_Sort_int_none Tryz.sortI p cap w
set_option maxHeartbeats 1000000 in
set_option maxRecDepth 100000 in
theorem perfect_bad {B : Nat} (va : Option Addr) (vk : Nat) (S : List Tr) (w : World) (e : Int) (ho : w.ownsRow B 47 3 (.slice va S.length vk) S.length (trL S)) (hb : BadS S e) :
  Calls Tryz.prog 45 #[.slice va S.length vk] w fun en w' => en = .returned (.tuple #[.bool false, .int .i64 e]) ∧ Below w.heap.size w w' := by
 have hcon := code_bad va vk S w e ho hb
 have hne := hb.ne
 have d1 : (e != 0) = true := by rw [bne_iff_ne]; exact hne
 have d2 : (e == 0) = false := by rw [beq_eq_false_iff_ne]; exact hne
 clear ho hb
 go_enter Tryz.func45, Tryz.ntmps45
 go_wp2_with (first
  | (go_at_call 31; (with_reducible refine hcon.mono ?_); rintro en w1 ⟨rfl, hK⟩; have KW := Lib.hid hK; clear hK)
  | (go_at_call 98; (with_reducible refine (sortI_none none 0 _).mono ?_); rintro en w2 ⟨rfl, rfl⟩))
 go_ret2
 exact ⟨rfl, KW.out⟩
theorem compact_len {n : Nat} (zs : List Int) (hn : zs.length = n) : (Go.Lib.compact zs).length = n ↔ ∀ j, j < n → Go.Lib.keeps zs.toArray j = true := by
 subst hn
 unfold Go.Lib.compact Go.Lib.compactUpTo
 rw [List.length_map]
 constructor
 ·intro h j hj
  have h2 : (List.range zs.length).filter (Go.Lib.keeps zs.toArray) = List.range zs.length := List.filter_sublist.eq_of_length (by rw [h, List.length_range])
  have h3 : j ∈ (List.range zs.length).filter (Go.Lib.keeps zs.toArray) := by rw [h2]; simpa using hj
  exact (List.mem_filter.1 h3).2
 ·intro h
  rw [List.filter_eq_self.2 (fun j hj => h j (by simpa using hj)), List.length_range]
theorem sorted_dist (zs : List Int) (hs : zs.Pairwise (fun a b => a ≤ b)) : (Go.Lib.compact zs).length = zs.length ↔ zs.Nodup := by
 rw [compact_len zs rfl]
 have hget := List.pairwise_iff_getElem.1 hs
 constructor
 ·intro h
  rw [List.nodup_iff_pairwise_ne, List.pairwise_iff_getElem]
  intro i j hi hj hij e
  have h1 := h (i + 1) (by omega)
  simp only [Go.Lib.keeps, decide_eq_true_eq] at h1
  rcases h1 with h1 | h1
  ·omega
  ·apply h1
   have g1 := hget i (i + 1) hi (by omega) (by omega)
   have g2 : zs[i + 1]'(by omega) ≤ zs[j] := by
    by_cases q : i + 1 = j
    ·subst q; exact Int.le_refl _
    ·exact hget (i + 1) j (by omega) hj (by omega)
   simp only [Nat.add_sub_cancel]
   simp [show i + 1 < zs.length by omega, hi]
   omega
 ·intro h j hj
  simp only [Go.Lib.keeps, decide_eq_true_eq]
  by_cases h0 : j = 0
  ·exact .inl h0
  ·right
   rw [List.nodup_iff_pairwise_ne, List.pairwise_iff_getElem] at h
   have := h (j - 1) j (by omega) hj (by omega)
   simp [hj, show j - 1 < zs.length by omega]
   exact fun e => this e.symm
theorem distS_nodup (S : List Tr) : DistS S ↔ (S.map (fun t => t.c)).Nodup := by
 rw [List.nodup_iff_pairwise_ne, List.pairwise_iff_getElem]
 unfold DistS
 constructor
 ·intro h i j hi hj hij
  rw [List.length_map] at hi hj
  have := h j i hij hj
  simp only [List.getElem_map]
  simp [hi, hj] at this
  exact fun e => this e.symm
 ·intro h i j hji hi
  have := h j i (by rw [List.length_map]; omega) (by rw [List.length_map]; exact hi) hji
  simp only [List.getElem_map] at this
  simp [hi, show j < S.length by omega]
  exact fun e => this e.symm
end Go.Proofs.YtolkchkedieppaaGreat

/- Perfect of hide at a cut. -/
namespace Go.Proofs.YtolkchkedieppaaGreat
open Go.RowKit Go.Sort
attribute [local go_sem ↓] Go.wp_at_zero Go.wp_at_succ
/-- the numbers of a row -/
def zsF (f : Nat → Int) (n : Nat) : List Int := (List.range n).map f
theorem zsF_len (f : Nat → Int) (n : Nat) : (zsF f n).length = n := by simp [zsF]
def srt (zs : List Int) : List Int := zs.mergeSort (fun x y => decide (x ≤ y))
theorem srt_len (zs : List Int) : (srt zs).length = zs.length := List.length_mergeSort zs
theorem srt_perm (zs : List Int) : (srt zs).Perm zs := List.mergeSort_perm zs _
theorem srt_sorted (zs : List Int) : (srt zs).Pairwise (fun a b => a ≤ b) := by
 have h := List.pairwise_mergeSort (le := fun x y : Int => decide (x ≤ y)) (fun a b c h1 h2 => by simp at *; omega) (fun a b => by simp; omega) zs
 exact h.imp (fun {a b} q => by simpa using q)
theorem holdsI_own {w : World} {base g cap n : Nat} {f : Nat → Int} (h : w.ownsRow base 3 1 (.slice (some ⟨g, 0, none⟩) n cap) n (ics f n)) : Holds (Value.int .i64) w g 0 (zsF f n).toArray := by
 intro j hj
 have hj2 : j < n := by simpa [zsF] using hj
 rw [Nat.zero_add]
 refine ⟨?_, h.frozenAt j⟩
 obtain ⟨a, b, o, c, hv, hs⟩ := ints_of_own h
 injection hv with e1 e2 e3
 have ha := hs.at_ (by omega)
 rw [← e1] at ha
 injection ha with ha
 injection ha with ha hb
 subst ha; subst hb
 have hc := hs.cell j hj2
 rw [Nat.zero_add] at hc
 rw [hc]
 simp [ic, zsF, hj2]
theorem grow_below {B : Nat} {w0 w : World} (h : Below B w0 w) (os : Array Obj) (hB : B ≤ w.heap.size) : Below B w0 (grow w os) := by
 refine ⟨h.os, h.tape, h.output, ?_, fun k hk => ?_⟩
 ·have := h.size; simp [grow]; omega
 ·rw [← h.block k hk]
  unfold grow
  rw [Array.getElem?_append_left (by omega)]
theorem sortI_any (w : World) (base g cap n : Nat) (f : Nat → Int) (h : w.ownsRow base 3 1 (.slice (some ⟨g, 0, none⟩) n cap) n (ics f n)) (hn : n ≤ 1000) :
  Calls Tryz.prog 98 #[.slice (some ⟨g, 0, none⟩) n cap] w fun e w' => e = .returned (.tuple #[]) ∧ Holds (Value.int .i64) w' g 0 (srt (zsF f n)).toArray ∧ Below base w w' ∧ g < w'.heap.size := by
 have hgb : base ≤ g ∧ g < w.heap.size := h.lt g rfl
 have hH := holdsI_own h
 have hcon := Any.slices_Sort_int Tryz.sortI g 0 cap (zsF f n) w hH hgb.2 (by rw [zsF_len]; omega)
 rw [zsF_len] at hcon
 refine Calls.mono hcon ?_
 rintro e w' ⟨rfl, q, os, rfl⟩
 have hb := Go.Lib.below_putRow (enc := Value.int .i64) (q := q) (d := (srt (zsF f n)).toArray) (Below.refl base w) hgb.1
 have hsz : base ≤ (putRow (Value.int .i64) (Sort.ahead w q) g 0 (srt (zsF f n)).toArray).heap.size := Nat.le_trans (Nat.le_of_lt (Nat.lt_of_le_of_lt hgb.1 hgb.2)) hb.size
 have hg2 : g < (putRow (Value.int .i64) (Sort.ahead w q) g 0 (srt (zsF f n)).toArray).heap.size := Nat.lt_of_lt_of_le hgb.2 hb.size
 have hb2 := grow_below hb os hsz
 refine ⟨rfl, ?_, hb2, Nat.lt_of_lt_of_le hgb.2 hb2.size⟩
 refine holds_grow _ _ _ _ _ _ hg2 ?_
 exact holds_putRow _ _ _ _ (zsF f n).toArray _ (holds_ahead _ _ _ _ _ _ hH) (by simp [srt_len, srt])
theorem compI_any (w : World) (base g cap : Nat) (zs : List Int) (hH : Holds (Value.int .i64) w g 0 zs.toArray) (hn : zs.length ≤ 1000) (hc : zs.length ≤ cap) (hg : base ≤ g) :
  Calls Tryz.prog 99 #[.slice (some ⟨g, 0, none⟩) zs.length cap] w fun e w' => e = .returned (.slice (some ⟨g, 0, none⟩) (Go.Lib.compact zs).length cap) ∧ Below base w w' := by
 have hcon := Any.slices_Compact_int Tryz.compI g 0 cap zs w hH (by omega) hc
 refine Calls.mono hcon ?_
 rintro e w' ⟨rfl, q, rfl⟩
 exact ⟨rfl, Go.Lib.below_putRow (enc := Value.int .i64) (q := q) (Below.refl base w) hg⟩
end Go.Proofs.YtolkchkedieppaaGreat

/- Perfect of hide at a cut: the walk. -/
namespace Go.Proofs.YtolkchkedieppaaGreat
open Go.RowKit Go.Sort
attribute [local go_sem ↓] Go.wp_at_zero Go.wp_at_succ
theorem zsF_sz (S : List Tr) : zsF (szF S) S.length = S.map (fun t => t.c) := by
 apply List.ext_getElem?
 intro i
 simp only [zsF, List.getElem?_map]
 by_cases h : i < S.length
 ·simp [h, szF]
 ·simp [h]
theorem perf_plain {L S : List Tr} (hp : L.Perm S) : (Go.Lib.compact (srt (zsF (szF S) S.length))).length = S.length ↔ DistS L := by
 have h1 : (srt (zsF (szF S) S.length)).length = S.length := by rw [srt_len, zsF_len]
 have h2 := sorted_dist _ (srt_sorted (zsF (szF S) S.length))
 rw [h1] at h2
 rw [h2, (srt_perm _).nodup_iff, zsF_sz, distS_nodup]
 exact ((hp.map (fun t => t.c)).nodup_iff).symm
set_option maxHeartbeats 2000000 in
set_option maxRecDepth 100000 in
theorem perfect_mk {B : Nat} (v : Value) (L : List Tr) (W H : Nat) (r : Bool) (w : World) (hv : OwS B w v L) (hm : MkC L W H) (hn : L.length ≤ 24) (hr : r = true ↔ DistS L) :
  Calls Tryz.prog 45 #[v] w fun e w' => e = .returned (.tuple #[.bool r, .int .i64 0]) ∧ Below w.heap.size w w' := by
 obtain ⟨g0, c0, rfl, _, h2, h3, h4⟩ := hv.ex
 have hcode := code_good g0 c0 L w h4 h2 h3 (hm.cut hn)
 have hpos := hm.pos
 have HR := Lib.hid hr
 obtain ⟨n, hN⟩ : ∃ n, n = L.length := ⟨_, rfl⟩
 rw [← hN] at hcode hn hpos ⊢
 have HN := Lib.hid hN
 clear hv hm h2 h3 h4 hr hN
 go_enter Tryz.func45, Tryz.ntmps45
 go_upto_region 2 with (go_at_call 31; (with_reducible refine hcode.mono ?_); rintro e w1 ⟨va, vk, S, B1, rfl, hl, hp, hs, hB, ho, hb⟩; have HL := Lib.hid hl; have HP := Lib.hid hp; have HB1 := Lib.hid hB; have HO := Lib.hid ho; have KW := Lib.hid hb; clear hl hp hs hB ho hb)
 clear hcode
 obtain ⟨g1, k1, hvs, _, _⟩ := HO.out.form (by omega)
 injection hvs with u1 u2 u3
 subst u1; subst u3
 clear u2
 have hgl := HO.out.lt g1 rfl
 have hcap : n ≤ vk := by
  rcases HO.out.2 with ⟨_, e⟩ | ⟨gg, cap, cur, hv, _, _, hc, _⟩
  ·omega
  ·injection hv with e1 e2 e3; omega
 have hK := perf_plain (L := L) (S := S) HP.out
 have hSl : S.length = n := HL.out
 rw [hSl] at hK
 have hlen : (srt (zsF (szF S) n)).length = n := by rw [srt_len, zsF_len]
 have HLEN := Lib.hid hlen
 obtain ⟨K, hKK⟩ : ∃ K, K = (Go.Lib.compact (srt (zsF (szF S) n))).length := ⟨_, rfl⟩
 rw [← hKK] at hK
 have HKK := Lib.hid hKK
 have f1 : ((K : Int) == (n : Int)) = r := by
  rw [Bool.eq_iff_iff, HR.out, ← hK]
  simp
  omega
 have f2 : (K == n) = r := by
  rw [Bool.eq_iff_iff, HR.out, ← hK]
  simp
 have HCOMP : Hid (∀ wx, Holds (Value.int .i64) wx g1 0 (srt (zsF (szF S) n)).toArray → Calls Tryz.prog 99 #[.slice (some ⟨g1, 0, none⟩) n vk] wx fun e w' => e = .returned (.slice (some ⟨g1, 0, none⟩) K vk) ∧ Below B1 wx w') := Lib.hid (fun wx hH => by
  have h := compI_any wx B1 g1 vk (srt (zsF (szF S) n)) hH (by omega) (by omega) hgl.1
  rw [hlen, ← hKK] at h
  exact h)
 clear hK hSl hlen hKK
 go_wp2_with (first
  | (go_at_call 98; (with_reducible refine (sortI_any _ B1 g1 vk n (szF S) HO.out (by omega)).mono ?_); rintro e w2 ⟨rfl, hH, hb, hg⟩; have HH := Lib.hid hH; have KW := Lib.hid (KW.out.trans (hb.mono HB1.out)); clear hH hb hg)
  | (go_at_call 99; (with_reducible refine (HCOMP.out _ HH.out).mono ?_); rintro e w3 ⟨rfl, hb⟩; have KW := Lib.hid (KW.out.trans (hb.mono HB1.out)); clear hb))
 go_ret2
 exact ⟨rfl, KW.out⟩
end Go.Proofs.YtolkchkedieppaaGreat

/- a cut has its measures; plain law. -/
namespace Go.Proofs.YtolkchkedieppaaGreat
open Go.RowKit
theorem wdT_at (S : List Tr) : ∀ k, k ≤ S.length → wdT S k = 0 ∨ ∃ t, t ∈ S ∧ t.a + t.c = wdT S k
 | 0, _ => .inl rfl
 | k + 1, h => by
  simp only [wdT]
  split
  ·exact .inr ⟨_, getD_memT (show k < S.length by omega), rfl⟩
  ·exact wdT_at S k (by omega)
theorem htT_at (S : List Tr) : ∀ k, k ≤ S.length → htT S k = 0 ∨ ∃ t, t ∈ S ∧ t.b + t.c = htT S k
 | 0, _ => .inl rfl
 | k + 1, h => by
  simp only [htT]
  split
  ·exact .inr ⟨_, getD_memT (show k < S.length by omega), rfl⟩
  ·exact htT_at S k (by omega)
theorem MkC.of_cut {S : List Tr} (h : CutOK S) : ∃ W H, MkC S W H := by
 have hm := meas_bound h.rg S.length (Nat.le_refl _)
 have hp := h.pos
 have r0 := h.rg 0 hp
 have w0 := wdT_ge S S.length 0 hp
 have h0 := htT_ge S S.length 0 hp
 have := r0.a0; have := r0.b0; have := r0.c0
 obtain ⟨W, hW⟩ : ∃ W : Nat, wdT S S.length = (W : Int) := ⟨_, (Int.toNat_of_nonneg hm.1).symm⟩
 obtain ⟨H, hH⟩ : ∃ H : Nat, htT S S.length = (H : Int) := ⟨_, (Int.toNat_of_nonneg hm.2.2.1).symm⟩
 refine ⟨W, H, hp, by omega, by omega, by omega, by omega, fun t ht => ?_, ?_, ?_, ?_, ?_⟩
 ·obtain ⟨i, hi, rfl⟩ := List.getElem_of_mem ht
  have r := h.rg i hi
  have g1 := wdT_ge S S.length i hi
  have g2 := htT_ge S S.length i hi
  have e : S.getD i default = S[i] := by simp [hi]
  rw [e] at r g1 g2
  exact ⟨r.a0, r.b0, r.c0, by omega, by omega⟩
 ·rw [List.pairwise_iff_getElem]
  intro i j hi hj hij
  have := h.ap j i hij hj
  simpa [hi, hj] using this
 ·have e := arT_sum S S.length (Nat.le_refl _)
  rw [List.take_length] at e
  rw [← e, h.ar, hW, hH]
 ·rcases wdT_at S S.length (Nat.le_refl _) with e | ⟨t, ht, e⟩
  ·omega
  ·exact ⟨t, ht, by omega⟩
 ·rcases htT_at S S.length (Nat.le_refl _) with e | ⟨t, ht, e⟩
  ·omega
  ·exact ⟨t, ht, by omega⟩
end Go.Proofs.YtolkchkedieppaaGreat

/- Code of the reference of hide. -/
namespace Go.Proofs.YtolkchkedieppaaGreat
open Go.RowKit
attribute [local go_sem ↓] Go.wp_at_zero Go.wp_at_succ
theorem TrR.grown {w w' : World} {g o : Nat} {S : List Tr} {row : Option Nat} (h : TrR w g o S) (hg : w.grownBy w' row) (hl : g < w.heap.size) (hne : some g ≠ row) : TrR w' g o S := by
 have k : ∀ j, w'.cell? ⟨g, j, none⟩ = w.cell? ⟨g, j, none⟩ := fun j => World.cell?_of_block (hg.block g hl hne)
 exact ⟨fun i hi => (k _).trans (h.c0 i hi), fun i hi => (k _).trans (h.c1 i hi), fun i hi => (k _).trans (h.c2 i hi)⟩
theorem ne_grown {w : World} {g : Nat} {row row' : Option Nat} {ob : Obj} (hne : some g ≠ row) (hl : g < w.heap.size) (hbk : row' = row ∨ row' = some (w.alloc ob).heap.size) : some g ≠ row' := fun e => by
 rcases hbk with q | q
 ·exact hne (e.trans q)
 ·rw [q] at e
  have e2 := Option.some.inj e
  simp at e2
  omega
set_option maxHeartbeats 4000000 in
set_option maxRecDepth 100000 in
theorem rcode_mk {B : Nat} (v : Value) (L S : List Tr) (W H : Nat) (w : World) (hv : OwS B w v L) (hm : MkC L W H) (hn : L.length ≤ 24) (hp : L.Perm S) (hs : S.Pairwise (fun a b => ¬ ltS b a)) :
  Calls Tryz.prog 35 #[v] w fun e w' => ∃ va vk, e = .returned (.slice va (szL S).length vk) ∧ Ints w' (.slice va (szL S).length vk) (szL S).length (eF (szL S)) ∧ Below w.heap.size w w' := by
 obtain ⟨i0, hinf, hz0, hz1, hz2⟩ := info_parts infoI
 have hOrd := order_mk v L S W H (w.alloc (.cells #[] 3)) (hv.below ((Below.refl w.heap.size w).alloc (Nat.le_refl _) _)) hm hn hp hs
 have OW0 : Hid ((w.alloc (.cells #[] 3)).ownsRow w.heap.size 3 1 (.slice (some ⟨w.heap.size, 0, none⟩) 0 0) 0 []) := Lib.hid (World.ownsRow_made w #[] 0 (Nat.le_refl _) (by unfold maxLen; omega) rfl)
 have KA := Lib.hid ((Below.refl w.heap.size w).alloc (Nat.le_refl _) (.cells #[] 3))
 have HM := Lib.hid (hm.perm hp)
 have hS24 : S.length ≤ 24 := by rw [← hp.length_eq]; exact hn
 have HORD := Lib.hid hOrd
 clear hv hm hn hp hs hOrd
 go_enter Tryz.func35, Tryz.ntmps35
 go_wp2_with (go_at_call 32; (with_reducible refine HORD.out.mono ?_); rintro e w1 ⟨oa, ok, rfl, ho, hb⟩; have OO := Lib.hid ho; have HB := Lib.hid hb; clear ho hb)
 obtain ⟨go, co, hvo, hgo1, hgo2, _, TR0⟩ := OO.out.ex
 injection hvo with u1 u2 u3
 subst u1; subst u3
 clear u2
 have hsz1 : (w.alloc (.cells #[] 3)).heap.size = w.heap.size + 1 := by simp
 have R0 : Hid (w1.ownsRow w.heap.size 3 1 (.slice (some ⟨w.heap.size, 0, none⟩) 0 0) 0 (ics (szF S) 0)) := Lib.hid (own_kept OW0.out HB.out)
 have TRH := Lib.hid TR0
 have K0 := Lib.hid (KA.out.trans (HB.out.mono KA.out.size))
 have NE0 : Hid (some go ≠ (Value.slice (some ⟨w.heap.size, 0, none⟩) 0 0).ownBlock) := Lib.hid (fun e => by
  have : go = w.heap.size := Option.some.inj e
  omega)
 have HG0 := Lib.hid hgo2
 obtain ⟨n, hN⟩ : ∃ n, n = S.length := ⟨_, rfl⟩
 rw [← hN] at hS24 ⊢
 have HN := Lib.hid hN
 clear hgo1 hgo2 hN TR0 OW0 KA HB HORD OO hsz1
 go_loopw [3, 5] (fun v3 v5 wr => ∃ (k : Nat) (va : Option Addr) (vk : Nat), k ≤ n ∧ v5 = .int .i64 (k : Nat) ∧ v3 = .slice va k vk ∧ Hid (wr.ownsRow w.heap.size 3 1 (.slice va k vk) k (ics (szF S) k)) ∧ Hid (some go ≠ (Value.slice va k vk).ownBlock) ∧ Hid (TrR wr go 0 S) ∧ Hid (go < wr.heap.size) ∧ Hid (Below w.heap.size w wr)) (fun _ v5 _ => n - (intOf v5).toNat)
 case atStart => exact ⟨0, _, _, by omega, rfl, rfl, R0, NE0, TRH, HG0, K0⟩
 case round =>
  clear R0 NE0 TRH HG0 K0
  obtain ⟨k, va, vk, hk, rfl, rfl, OW, NE, TR, HG, KB⟩ := hrel
  by_cases h : k < n
  ·have e1 : decide ((k : Int) < (n : Int)) = true := by simpa using h
   have e1n : decide (k < n) = true := by simpa using h
   have hk2 : k < S.length := by have := HN.out; omega
   have ixk : ∀ X, (Instr.indexAt 23 (.slice (some ⟨go, 0, none⟩) n ok) (.int .i64 (k : Int))).run Tryz.prog X = .ok (.pointer (some ⟨go, k * 3, none⟩)) X := fun X => by
    have := ixSqo go 0 n ok k h X
    rw [Nat.zero_add] at this
    exact this
   have x2 := TR.out.c2 k hk2
   rw [Nat.zero_add] at x2
   obtain ⟨z, hz⟩ : ∃ z, z = (S.getD k default).c := ⟨_, rfl⟩
   rw [← hz] at x2
   have HQ : Hid (ics (szF S) k ++ [.int .i64 z] = ics (szF S) (k + 1)) := Lib.hid (by rw [← ics_succ, hz]; rfl)
   have HSZ := Lib.hid KB.out.size
   clear hz hk2
   go_wp2_with (at_builtin; refine wpList_append_own_at _ rfl (.tmp 15) (.tmp 21) 22 rfl w.heap.size 3 i0 (.int .i64 0) 1 8 Tryz.underlying22 hinf hz0 hz1 hz2 rfl (by decide) (.slice va k vk) k (ics (szF S) k) rfl (OW.out.alloc _) ⟨wr.heap.size, 0, none⟩ 1 1 [.int .i64 z] rfl rfl (new1 wr (.int .i64 z) 3) (one1 _ rfl) (by unfold maxLen; omega) (by omega) (by simp; have := HSZ.out; omega) ?_; intro v' w5 hown hgrow _ hbk; rw [HQ.out] at hown; have KB5 := Lib.hid ((KB.out.alloc HSZ.out _).grown hgrow (by have := HSZ.out; simp; omega) (fun kk e => (OW.out.lt kk e).1)); have TR5 := Lib.hid ((TR.out.below ((Below.refl wr.heap.size wr).alloc (Nat.le_refl _) (.cells #[.int .i64 z] 3)) HG.out).grown hgrow (by have := HG.out; simp; omega) NE.out); have HG5 := Lib.hid (Nat.lt_of_lt_of_le HG.out (Nat.le_trans (by simp) hgrow.size)); have NE5 : Hid (some go ≠ v'.ownBlock) := Lib.hid (ne_grown NE.out HG.out hbk); have OW5 := Lib.hid hown; obtain ⟨va5, vk5, rfl⟩ := own_shape hown; clear hown hgrow hbk)
   go_roundw
   case rel => exact ⟨k + 1, va5, vk5, by omega, by go_num, rfl, OW5, NE5, TR5, HG5, KB5⟩
   case measure => simp [intOf]; omega
  ·obtain rfl : k = n := by omega
   have e1 : decide ((k : Int) < (k : Int)) = false := by simp
   have HFIN : Hid (k = (szL S).length ∧ Ints wr (.slice va k vk) k (eF (szL S))) := Lib.hid ⟨by rw [szL_len]; exact HN.out, by
    have h1 := OW.out
    rw [ics_congr k (fun i hi => HM.out.eF i (by have := HN.out; omega))] at h1
    exact ints_of_own h1⟩
   go_wp2
   go_ret
   have h1 := HFIN.out.1
   have h2 := HFIN.out.2
   refine ⟨va, vk, by rw [← h1]; rfl, ?_, KB.out⟩
   rw [← h1]
   exact h2
end Go.Proofs.YtolkchkedieppaaGreat

/- Measure of the reference of hide. -/
namespace Go.Proofs.YtolkchkedieppaaGreat
open Go.RowKit
attribute [local go_sem ↓] Go.wp_at_zero Go.wp_at_succ
set_option maxHeartbeats 8000000 in
set_option maxRecDepth 100000 in
theorem rmeas_any (v : Value) (S : List Tr) (w : World) (hv : SqV w v S) (hrg : ∀ i, i < S.length → RgT (S.getD i default)) (hn : S.length ≤ 1000) :
  Calls Tryz.prog 24 #[v] w fun e w' => e = .returned (.tuple #[.int .i64 (wdT S S.length), .int .i64 (htT S S.length)]) ∧ Below w.heap.size w w' := by
 obtain ⟨a1, c1, rfl, k1⟩ := hv.ex
 have K1 := Lib.hid k1
 clear hv k1
 obtain ⟨n, hN⟩ : ∃ n, n = S.length := ⟨_, rfl⟩
 rw [← hN] at K1 hn hrg ⊢
 have HN := Lib.hid hN
 have HRG := Lib.hid hrg
 clear hN hrg
 go_enter Tryz.func24, Tryz.ntmps24
 go_wp2
 have KB0 := Lib.hid (Below.refl w.heap.size w)
 go_loopw [4, 5, 6] (fun v4 v5 v6 wr => ∃ i : Nat, i ≤ n ∧ v6 = .int .i64 (i : Nat) ∧ v4 = .int .i64 (wdT S i) ∧ v5 = .int .i64 (htT S i) ∧ Hid (Below w.heap.size w wr)) (fun _ _ v6 _ => n - (intOf v6).toNat)
 case atStart => exact ⟨0, by omega, rfl, rfl, rfl, KB0⟩
 case round =>
  clear KB0
  obtain ⟨i, hi, rfl, rfl, rfl, KB⟩ := hrel
  by_cases h : i < n
  ·have e1 : decide ((i : Int) < (n : Int)) = true := by simpa using h
   have e1n : decide (i < n) = true := by simpa using h
   obtain ⟨g1, o1, rfl, r1, l1⟩ := K1.out (by omega)
   have ixi := fun X => ixSqo g1 o1 n c1 i h X
   have hi2 : i < S.length := by have := HN.out; omega
   have T := r1.below KB.out l1
   have x0 := T.c0 i hi2
   have x1 := T.c1 i hi2
   have x2 := T.c2 i hi2
   have hmb := meas_boundN HRG.out i hi
   have hrp := HRG.out i h
   obtain ⟨p, hp⟩ : ∃ p, p = S.getD i default := ⟨_, rfl⟩
   rw [← hp] at hrp x0 x1 x2
   have hWn : wdT S (i + 1) = (if wdT S i < p.a + p.c then p.a + p.c else wdT S i) := by rw [hp]; rfl
   have hHn : htT S (i + 1) = (if htT S i < p.b + p.c then p.b + p.c else htT S i) := by rw [hp]; rfl
   clear hp r1 l1 T hi2
   obtain ⟨Wi, hWi⟩ : ∃ W, W = wdT S i := ⟨_, rfl⟩
   obtain ⟨Hi, hHi⟩ : ∃ H, H = htT S i := ⟨_, rfl⟩
   rw [← hWi] at hWn hmb ⊢
   rw [← hHi] at hHn hmb ⊢
   clear hWi hHi
   have q0 := hrp.a0; have q1 := hrp.b0; have q2 := hrp.c0; have q3 := hrp.c1; have q4 := hrp.a1; have q5 := hrp.b1
   have w6 : IntKind.i64.wrap (p.a + p.c) = p.a + p.c := by rw [IntKind.wrap_i64]; omega
   have w7 : IntKind.i64.wrap (p.b + p.c) = p.b + p.c := by rw [IntKind.wrap_i64]; omega
   have hW : (if Wi < p.a + p.c then p.a + p.c else Wi) = wdT S (i + 1) := hWn.symm
   have hH : (if Hi < p.b + p.c then p.b + p.c else Hi) = htT S (i + 1) := hHn.symm
   have hWm : max Wi (p.a + p.c) = wdT S (i + 1) := by rw [← hW]; split <;> omega
   have hHm : max Hi (p.b + p.c) = htT S (i + 1) := by rw [← hH]; split <;> omega
   clear hrp hmb q0 q1 q2 q3 q4 q5 hWn hHn
   go_upto_region 5 with (fail)
   go_quiet (fail)
   go_wp2
   go_roundw
   case rel => exact ⟨i + 1, by omega, by go_num, rfl, rfl, Lib.hid (KB.out.trans ((Drawn.of _ _).below _))⟩
   case measure => simp [intOf]; omega
  ·obtain rfl : i = n := by omega
   have e1 : decide ((i : Int) < (i : Int)) = false := by simp
   go_wp2
   go_ret2
   exact ⟨rfl, KB.out⟩
end Go.Proofs.YtolkchkedieppaaGreat
