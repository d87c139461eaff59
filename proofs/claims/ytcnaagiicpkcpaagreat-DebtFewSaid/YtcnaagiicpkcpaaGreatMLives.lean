/- pommellaw01.lives -/
import Derived.Test.YtcnaagiicpkcpaaGreatMLive5
import Derived.Test.YtcnaagiicpkcpaaGreatMRepR
import Derived.Test.YtcnaagiicpkcpaaGreatMSame
import Derived.Test.YtcnaagiicpkcpaaGreatMCancel2
set_option linter.unusedVariables false
set_option linter.unusedSimpArgs false
namespace Go.Proofs.YtcnaagiicpkcpaaGreat
open Go.RowKit
attribute [local go_sem ↓] Go.wp_at_zero Go.wp_at_succ
/-- the ring of the example -/
def dR (i j : Nat) : Int := if i = j then 0 else 5
theorem debts_R : Debts 2 (fun _ => 2) dR := by
 refine ⟨by omega, by omega, fun i hi => ⟨rfl, by simp [dR], fun j hj => by unfold dR; split <;> omega⟩⟩
/-- nothing is left of the ring -/
theorem opt_R {r : Nat → Nat → Int} {p : Nat → Int} (h : Opt 2 dR r p) : sum2 2 dR - sum2 2 r = 10 := by
 have a := h.inv.range 0 0 (by omega) (by omega)
 have b := h.inv.range 0 1 (by omega) (by omega)
 have c := h.inv.range 1 0 (by omega) (by omega)
 have d := h.inv.range 1 1 (by omega) (by omega)
 have e := h.inv.bal 0 (by omega)
 have f := h.down 0 1 (by omega) (by omega)
 have g := h.down 1 0 (by omega) (by omega)
 simp only [bal, sumF, dR, sum2] at *
 simp at *
 by_cases h1 : 0 < r 0 1
 ·have := f h1
  have := g (by omega)
  omega
 ·omega
/-- a row that was just made -/
theorem sl_new (w : World) (xs : List Value) (t : TypeId) (g : Nat → Value) (b : Nat) (hb : b = w.heap.size) (hg : ∀ i, i < xs.length → xs[i]? = some (g i)) : IsSl (w.alloc (.cells xs.toArray t)) (some ⟨b, 0, none⟩) b 0 xs.length xs.length g := by
 subst hb
 refine ⟨Nat.le_refl _, fun _ => rfl, fun _ => by simp, fun i hi => ?_, fun e => by cases e⟩
 rw [Nat.zero_add]
 have h := cell_of_row (w.alloc (.cells xs.toArray t)) w.heap.size i xs.toArray t (0, 0) (heap_alloc_new w _)
 rw [h]; simpa using hg i hi
/-- a matrix of two rows that was just made -/
theorem mat2_new (w : World) (x y z u : Int) (f : Nat → Nat → Int) (hf : f 0 0 = x ∧ f 0 1 = y ∧ f 1 0 = z ∧ f 1 1 = u) :
  Mat (((w.alloc (.cells #[.int .i64 x, .int .i64 y] 3)).alloc (.cells #[.int .i64 z, .int .i64 u] 3)).alloc (.cells #[.slice (some ⟨w.heap.size, 0, none⟩) 2 2, .slice (some ⟨w.heap.size + 1, 0, none⟩) 2 2] 22)) (.slice (some ⟨w.heap.size + 1 + 1, 0, none⟩) 2 2) 2 (fun _ => 2) f := by
 obtain ⟨f1, f2, f3, f4⟩ := hf
 have h0 := sl_new w [.int .i64 x, .int .i64 y] 3 (ic (f 0)) w.heap.size rfl (fun i hi => by
  have hi : i < 2 := hi
  have : i = 0 ∨ i = 1 := by omega
  rcases this with e | e <;> subst e <;> simp [ic, f1, f2])
 have h1 := sl_new (w.alloc (.cells #[.int .i64 x, .int .i64 y] 3)) [.int .i64 z, .int .i64 u] 3 (ic (f 1)) (w.heap.size + 1) (by simp) (fun i hi => by
  have hi : i < 2 := hi
  have : i = 0 ∨ i = 1 := by omega
  rcases this with e | e <;> subst e <;> simp [ic, f3, f4])
 have h2 := sl_new ((w.alloc (.cells #[.int .i64 x, .int .i64 y] 3)).alloc (.cells #[.int .i64 z, .int .i64 u] 3)) [.slice (some ⟨w.heap.size, 0, none⟩) 2 2, .slice (some ⟨w.heap.size + 1, 0, none⟩) 2 2] 22 (fun i => .slice (some ⟨w.heap.size + i, 0, none⟩) 2 2) (w.heap.size + 1 + 1) (by simp) (fun i hi => by
  have hi : i < 2 := hi
  have : i = 0 ∨ i = 1 := by omega
  rcases this with e | e <;> subst e <;> rfl)
 refine ⟨_, _, _, _, fun i => some ⟨w.heap.size + i, 0, none⟩, fun i => w.heap.size + i, fun _ => 0, fun _ => 2, rfl, ⟨h2, fun i hi => ?_⟩⟩
 have : i = 0 ∨ i = 1 := by omega
 rcases this with e | e <;> subst e
 ·exact (h0.alloc _).alloc _
 ·exact h1.alloc _
theorem mat1_new (w : World) : Mat ((w.alloc (.cells #[.int .i64 0] 3)).alloc (.cells #[.slice (some ⟨w.heap.size, 0, none⟩) 1 1] 22)) (.slice (some ⟨w.heap.size + 1, 0, none⟩) 1 1) 1 (fun _ => 1) (fun _ _ => 0) := by
 have h0 := sl_new w [.int .i64 0] 3 (ic (fun _ => 0)) w.heap.size rfl (fun i hi => by
  have hi : i < 1 := hi
  have : i = 0 := by omega
  subst this; rfl)
 have h1 := sl_new (w.alloc (.cells #[.int .i64 0] 3)) [.slice (some ⟨w.heap.size, 0, none⟩) 1 1] 22 (fun _ => .slice (some ⟨w.heap.size, 0, none⟩) 1 1) (w.heap.size + 1) (by simp) (fun i hi => by
  have hi : i < 1 := hi
  have : i = 0 := by omega
  subst this; rfl)
 exact ⟨_, _, _, _, fun _ => some ⟨w.heap.size, 0, none⟩, fun _ => w.heap.size, fun _ => 0, fun _ => 1, rfl, ⟨h1, fun i hi => h0.alloc _⟩⟩
theorem matG_new (w : World) : Mat (((w.alloc (.cells #[.int .i64 0, .int .i64 1] 3)).alloc (.cells #[.int .i64 2, .int .i64 3, .int .i64 4] 3)).alloc (.cells #[.slice (some ⟨w.heap.size, 0, none⟩) 2 2, .slice (some ⟨w.heap.size + 1, 0, none⟩) 3 3] 22)) (.slice (some ⟨w.heap.size + 1 + 1, 0, none⟩) 2 2) 2 (fun i => if i = 0 then 2 else 3) (fun i => if i = 0 then g0F else g1F) := by
 have h0 := sl_new w [.int .i64 0, .int .i64 1] 3 (ic g0F) w.heap.size rfl (fun i hi => by
  have hi : i < 2 := hi
  have : i = 0 ∨ i = 1 := by omega
  rcases this with e | e <;> subst e <;> rfl)
 have h1 := sl_new (w.alloc (.cells #[.int .i64 0, .int .i64 1] 3)) [.int .i64 2, .int .i64 3, .int .i64 4] 3 (ic g1F) (w.heap.size + 1) (by simp) (fun i hi => by
  have hi : i < 3 := hi
  have : i = 0 ∨ i = 1 ∨ i = 2 := by omega
  rcases this with e | e | e <;> subst e <;> rfl)
 have h2 := sl_new ((w.alloc (.cells #[.int .i64 0, .int .i64 1] 3)).alloc (.cells #[.int .i64 2, .int .i64 3, .int .i64 4] 3)) [.slice (some ⟨w.heap.size, 0, none⟩) 2 2, .slice (some ⟨w.heap.size + 1, 0, none⟩) 3 3] 22 (fun i => .slice (some ⟨w.heap.size + i, 0, none⟩) (if i = 0 then 2 else 3) (if i = 0 then 2 else 3)) (w.heap.size + 1 + 1) (by simp) (fun i hi => by
  have hi : i < 2 := hi
  have : i = 0 ∨ i = 1 := by omega
  rcases this with e | e <;> subst e <;> rfl)
 refine ⟨_, _, _, _, fun i => some ⟨w.heap.size + i, 0, none⟩, fun i => w.heap.size + i, fun _ => 0, fun i => if i = 0 then 2 else 3, rfl, ⟨h2, fun i hi => ?_⟩⟩
 have : i = 0 ∨ i = 1 := by omega
 rcases this with e | e <;> subst e
 ·exact (h0.alloc _).alloc _
 ·exact h1.alloc _
set_option maxHeartbeats 4000000 in
set_option maxRecDepth 100000 in
theorem lives_true (w : World) : Calls Tryz.prog 9 #[] w fun e w' => e = .returned (.bool true) ∧ Below w.heap.size w w' := by
 have KW := Lib.hid (Below.refl w.heap.size w)
 go_enter Tryz.func9, Tryz.ntmps9
 go_wp2_with fail
 have hd := mat2_new w 0 4 2 0 dL ⟨rfl, rfl, rfl, rfl⟩
 have KW := Lib.hid ((((Below.refl w.heap.size w).alloc (Nat.le_refl _) (.cells #[.int .i64 0, .int .i64 4] 3)).alloc (by simp) (.cells #[.int .i64 2, .int .i64 0] 3)).alloc (by simp; omega) (.cells #[.slice (some ⟨w.heap.size, 0, none⟩) 2 2, .slice (some ⟨w.heap.size + 1, 0, none⟩) 2 2] 22))
 have hsz : (((w.alloc (.cells #[.int .i64 0, .int .i64 4] 3)).alloc (.cells #[.int .i64 2, .int .i64 0] 3)).alloc (.cells #[.slice (some ⟨w.heap.size, 0, none⟩) 2 2, .slice (some ⟨w.heap.size + 1, 0, none⟩) 2 2] 22)).heap.size = w.heap.size + 1 + 1 + 1 := by simp
 generalize (((w.alloc (.cells #[.int .i64 0, .int .i64 4] 3)).alloc (.cells #[.int .i64 2, .int .i64 0] 3)).alloc (.cells #[.slice (some ⟨w.heap.size, 0, none⟩) 2 2, .slice (some ⟨w.heap.size + 1, 0, none⟩) 2 2] 22)) = w3 at hd KW hsz ⊢
 have hcash : ∀ W : World, Ints (W.alloc (.cells #[.int .i64 1, .int .i64 0] 3)) (.slice (some ⟨W.heap.size, 0, none⟩) 2 2) 2 cashL := fun W => ⟨_, _, _, _, rfl, sl_new W [.int .i64 1, .int .i64 0] 3 (ic cashL) W.heap.size rfl (fun i hi => by
  have hi : i < 2 := hi
  have : i = 0 ∨ i = 1 := by omega
  rcases this with e | e <;> subst e <;> rfl)⟩
 rw [← hsz]
 have HD := Lib.hid hd
 have HCS := Lib.hid hcash
 clear hd hcash
 refine (clear_live2 _ _ _ (HCS.out w3) (HD.out.mono ((Below.refl w3.heap.size w3).alloc (Nat.le_refl _) _) (Nat.le_refl _))).mono ?_
 rintro e w4 ⟨v, rfl, hp, hb⟩
 have KW := Lib.hid ((KW.out.alloc KW.out.size (.cells #[.int .i64 1, .int .i64 0] 3)).trans (hb.mono (by have := KW.out.size; simp; omega)))
 have HD := Lib.hid ((HD.out.mono ((Below.refl w3.heap.size w3).alloc (Nat.le_refl _) (.cells #[.int .i64 1, .int .i64 0] 3)) (Nat.le_refl _)).mono hb (Nat.le_refl _))
 have PP := Lib.hid hp
 clear hp hb
 go_wp2_with fail
 refine (fails_live2 _ _ _ (HCS.out w4) (HD.out.mono ((Below.refl w4.heap.size w4).alloc (Nat.le_refl _) _) (Nat.le_refl _))).mono ?_
 rintro e w5 ⟨va5, vk5, rfl, hf, hb⟩
 have KW := Lib.hid ((KW.out.alloc KW.out.size (.cells #[.int .i64 1, .int .i64 0] 3)).trans (hb.mono (by have := KW.out.size; simp; omega)))
 have PP := Lib.hid (Sl.mono (Sl.mono PP.out ((Below.refl w4.heap.size w4).alloc (Nat.le_refl _) (.cells #[.int .i64 1, .int .i64 0] 3)) (Nat.le_refl _)) hb (Nat.le_refl _))
 have FF := Lib.hid hf
 clear hb HD hf
 go_wp2_with fail
 have hm := mat2_new w5 0 5 5 0 dR ⟨rfl, rfl, rfl, rfl⟩
 have hb3 := (((Below.refl w5.heap.size w5).alloc (Nat.le_refl _) (.cells #[.int .i64 0, .int .i64 5] 3)).alloc (by simp) (.cells #[.int .i64 5, .int .i64 0] 3)).alloc (by simp; omega) (.cells #[.slice (some ⟨w5.heap.size, 0, none⟩) 2 2, .slice (some ⟨w5.heap.size + 1, 0, none⟩) 2 2] 22)
 generalize (((w5.alloc (.cells #[.int .i64 0, .int .i64 5] 3)).alloc (.cells #[.int .i64 5, .int .i64 0] 3)).alloc (.cells #[.slice (some ⟨w5.heap.size, 0, none⟩) 2 2, .slice (some ⟨w5.heap.size + 1, 0, none⟩) 2 2] 22)) = w6 at hm hb3 ⊢
 have PP := Lib.hid (Sl.mono PP.out hb3 (Nat.le_refl _))
 have FF := Lib.hid (FF.out.mono hb3 (Nat.le_refl _))
 have KW := Lib.hid (KW.out.trans (hb3.mono KW.out.size))
 have HM := Lib.hid hm
 clear hm hb3
 refine (Cancel_ok _ 2 (fun _ => 2) dR _ HM.out debts_R).mono ?_
 rintro e w7 ⟨R, r, p, rfl, _, hopt, _, _, hb⟩
 rw [opt_R hopt]
 have PP := Lib.hid (Sl.mono PP.out hb (Nat.le_refl _))
 have FF := Lib.hid (FF.out.mono hb (Nat.le_refl _))
 have KW := Lib.hid (KW.out.trans (hb.mono KW.out.size))
 clear hopt hb HM
 go_wp2_with fail
 have hbl := sl_new w7 [.int .i64 3, .int .i64 (-3), .int .i64 2, .int .i64 (-1), .int .i64 (-1)] 3 (ic blF) w7.heap.size rfl (fun i hi => by
  have hi : i < 5 := hi
  have : i = 0 ∨ i = 1 ∨ i = 2 ∨ i = 3 ∨ i = 4 := by omega
  rcases this with e | e | e | e | e <;> subst e <;> rfl)
 refine (Groups_live _ _ ⟨_, _, _, _, rfl, hbl⟩).mono ?_
 rintro e w8 ⟨vg, rfl, hg, hb⟩
 have hb2 := (Below.refl w7.heap.size w7).alloc (Nat.le_refl _) (.cells #[.int .i64 3, .int .i64 (-3), .int .i64 2, .int .i64 (-1), .int .i64 (-1)] 3)
 have PP := Lib.hid (Sl.mono (Sl.mono PP.out hb2 (Nat.le_refl _)) hb (Nat.le_refl _))
 have FF := Lib.hid ((FF.out.mono hb2 (Nat.le_refl _)).mono hb (Nat.le_refl _))
 have KW := Lib.hid ((KW.out.trans (hb2.mono KW.out.size)).trans (hb.mono (by have := KW.out.size; simp; omega)))
 have GG := Lib.hid hg
 clear hbl hg hb hb2
 go_wp2_with fail
 have hrow := sl_new w8 [.string { data := #[51] }, .string { data := #[50] }] 58 (fun j => .string (digS (payN j))) w8.heap.size rfl (fun i hi => by
  have hi : i < 2 := hi
  have : i = 0 ∨ i = 1 := by omega
  rcases this with e | e <;> subst e <;> rfl)
 have hb2 := (Below.refl w8.heap.size w8).alloc (Nat.le_refl _) (.cells #[.string { data := #[51] }, .string { data := #[50] }] 58)
 refine (sameRow_eq _ _ 2 (fun j => digS (payN j)) _ (Sl.mono PP.out hb2 (Nat.le_refl _)) ⟨_, _, _, _, rfl, hrow⟩ (by omega)).mono ?_
 rintro e w9 ⟨rfl, hd9⟩
 have FF := Lib.hid ((FF.out.mono hb2 (Nat.le_refl _)).drawn hd9)
 have GG := Lib.hid ((GG.out.mono hb2 (Nat.le_refl _)).drawn hd9)
 have KW := Lib.hid ((KW.out.trans (hb2.mono KW.out.size)).trans (hd9.below _))
 clear hrow hb2 hd9 PP
 go_wp2_with fail
 have hb3 := ((Below.refl w9.heap.size w9).alloc (Nat.le_refl _) (.cells #[.int .i64 0] 3)).alloc (by simp) (.cells #[.slice (some ⟨w9.heap.size, 0, none⟩) 1 1] 22)
 have hm1 := mat1_new w9
 refine (sameLists_eq _ _ 1 (fun _ => 1) (fun _ _ => 0) _ (FF.out.mono hb3 (Nat.le_refl _)) hm1 (by omega) (fun i hi => by omega)).mono ?_
 rintro e w10 ⟨rfl, hd10⟩
 have GG := Lib.hid ((GG.out.mono hb3 (Nat.le_refl _)).drawn hd10)
 have KW := Lib.hid ((KW.out.trans (hb3.mono KW.out.size)).trans (hd10.below _))
 clear hm1 hb3 hd10 FF
 go_wp2_with fail
 have hb3 := (((Below.refl w10.heap.size w10).alloc (Nat.le_refl _) (.cells #[.int .i64 0, .int .i64 1] 3)).alloc (by simp) (.cells #[.int .i64 2, .int .i64 3, .int .i64 4] 3)).alloc (by simp; omega) (.cells #[.slice (some ⟨w10.heap.size, 0, none⟩) 2 2, .slice (some ⟨w10.heap.size + 1, 0, none⟩) 3 3] 22)
 have hmg := matG_new w10
 refine (sameLists_eq _ _ 2 _ _ _ (GG.out.mono hb3 (Nat.le_refl _)) hmg (by omega) (fun i hi => by split <;> omega)).mono ?_
 rintro e w11 ⟨rfl, hd11⟩
 have KW := Lib.hid ((KW.out.trans (hb3.mono KW.out.size)).trans (hd11.below _))
 clear hmg hb3 hd11 GG
 go_wp2_with fail
 go_ret
 exact ⟨rfl, KW.out⟩
end Go.Proofs.YtcnaagiicpkcpaaGreat
