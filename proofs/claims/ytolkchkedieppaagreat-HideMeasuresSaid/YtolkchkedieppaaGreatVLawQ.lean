/- The law HideMeasures: its walk. -/
import Derived.Test.YtolkchkedieppaaGreatVRme
import Derived.Test.YtolkchkedieppaaGreatVRpf
import Derived.Test.YtolkchkedieppaaGreatVFew
import Derived.Test.YtolkchkedieppaaGreatVLivH
set_option linter.unusedVariables false
set_option linter.unusedSimpArgs false
namespace Go.Proofs.YtolkchkedieppaaGreat
open Go.RowKit
attribute [local go_sem ↓] Go.wp_at_zero Go.wp_at_succ
theorem rmeas_mk {B : Nat} (v : Value) (L : List Tr) (W H : Nat) (w : World) (hv : OwS B w v L) (hm : MkC L W H) (hn : L.length ≤ 24) :
  Calls Tryz.prog 24 #[v] w fun e w' => e = .returned (.tuple #[.int .i64 (W : Nat), .int .i64 (H : Nat)]) ∧ Below w.heap.size w w' := by
 have h := rmeas_any v L w hv.sqV (hm.cut hn).rg (by omega)
 rw [hm.wd, hm.ht] at h
 exact h
/-- few at 24 squares, its row at length -/
theorem few_row (v : Value) (S : List Tr) (most : Nat) (w : World) (hv : SqA w v S) (hm : most ≤ 24) :
  Calls Tryz.prog 19 #[v, .int .i64 (most : Nat)] w fun e w' => ∃ va vk T, e = .returned (.slice va T.length vk) ∧ T = S.take (fewK S.length most) ∧ w'.ownsRow w.heap.size 47 3 (.slice va T.length vk) T.length (trL T) ∧ Below w.heap.size w w' := by
 refine (few_any v S most w hv hm).mono ?_
 rintro e w' ⟨va, vk, rfl, ho, hb⟩
 have hl : (S.take (fewK S.length most)).length = fewK S.length most := by rw [List.length_take]; exact Nat.min_eq_left (fewK_le _ _)
 refine ⟨va, vk, S.take (fewK S.length most), by rw [hl], rfl, ?_, hb⟩
 rw [hl]
 exact ho.out
set_option maxHeartbeats 8000000 in
set_option maxRecDepth 100000 in
theorem lawMeasures (v : Value) (S0 : List Tr) (w : World) (hv : SqA w v S0) :
  Calls Tryz.prog 14 #[v] w fun e w' => e = .returned (.bool true) ∧ Below w.heap.size w w' := by
 have hfew := few_row v S0 24 w hv (by omega)
 rw [show ((24 : Nat) : Int) = 24 from rfl] at hfew
 clear hv
 go_enter Tryz.func14, Tryz.ntmps14
 go_upto_region 2 with (go_at_call 19; (with_reducible refine hfew.mono ?_); rintro e w1 ⟨va, vk, T, rfl, hT, ho, hb⟩; have HO := Lib.hid ho; have KW := Lib.hid hb; clear ho hb hT)
 clear hfew
 have KB := Lib.hid (Below.refl w1.heap.size w1)
 rcases cut_or_bad T with hC | ⟨z, hz⟩
 ·obtain ⟨W, H, hm⟩ := MkC.of_cut hC
  obtain ⟨r, hr⟩ : ∃ r : Bool, r = true ↔ DistS T := ⟨@decide (DistS T) (Classical.propDecidable _), by simp⟩
  have OT := Lib.hid (ows_of HO.out hm.pos)
  have HM := Lib.hid hm
  have HR := Lib.hid hr
  have hn24 := hC.few
  have HC := Lib.hid hC
  have frr : (r == r) = true := by simp
  clear hC hm hr
  go_wp2_with (first
   | (go_at_call 30; (with_reducible refine (measure_mk _ T W H _ (OT.out.below KB.out) HM.out hn24).mono ?_); rintro e w2 ⟨rfl, hb⟩; have KB := Lib.hid (KB.out.trans (hb.mono KB.out.size)); clear hb)
   | (go_at_call 31; (with_reducible refine (code_mk _ T W H _ (OT.out.below KB.out) HM.out hn24).mono ?_); rintro e w3 ⟨ca, ck, S, rfl, hp, hs, hmS, hSl, hi, hb⟩; have HP := Lib.hid hp; have HS := Lib.hid hs; have HSL := Lib.hid hSl; have HI := Lib.hid hi; have KB := Lib.hid (KB.out.trans (hb.mono KB.out.size)); have KC := Lib.hid (Below.refl w3.heap.size w3); clear hp hs hmS hSl hi hb)
   | (go_at_call 45; (with_reducible refine (perfect_mk _ T W H r _ (OT.out.below KB.out) HM.out hn24 HR.out).mono ?_); rintro e w4 ⟨rfl, hb⟩; have KB := Lib.hid (KB.out.trans (hb.mono KB.out.size)); have KC := Lib.hid (KC.out.trans (hb.mono KC.out.size)); clear hb)
   | (go_at_call 21; (with_reducible refine (rcheck_any _ T 0 _ (OT.out.below KB.out).sqV (.inl ⟨HC.out, rfl⟩)).mono ?_); rintro e w5 ⟨rfl, hb⟩; have KB := Lib.hid (KB.out.trans (hb.mono KB.out.size)); have KC := Lib.hid (KC.out.trans (hb.mono KC.out.size)); clear hb)
   | (go_at_call 24; (with_reducible refine (rmeas_mk _ T W H _ (OT.out.below KB.out) HM.out hn24).mono ?_); rintro e w6 ⟨rfl, hb⟩; have KB := Lib.hid (KB.out.trans (hb.mono KB.out.size)); have KC := Lib.hid (KC.out.trans (hb.mono KC.out.size)); clear hb)
   | (go_at_call 35; (with_reducible refine (rcode_mk _ T S W H _ (OT.out.below KB.out) HM.out hn24 HP.out HS.out).mono ?_); rintro e w7 ⟨da, dk, rfl, hi, hb⟩; have HJ := Lib.hid hi; have KB := Lib.hid (KB.out.trans (hb.mono KB.out.size)); have KC := Lib.hid (KC.out.trans (hb.mono KC.out.size)); clear hi hb)
   | (go_at_call 40; (with_reducible refine (same_same _ _ (szL S).length (eF (szL S)) _ (HI.out.mono KC.out (Nat.le_refl _)) HJ.out (by rw [szL_len, HSL.out]; omega)).mono ?_); rintro e w8 ⟨rfl, hd⟩; have KB := Lib.hid (KB.out.trans (hd.below _)); clear hd)
   | (go_at_call 46; (with_reducible refine (rperf_any _ T r _ (OT.out.below KB.out).sqV (by omega) HR.out).mono ?_); rintro e w9 ⟨rfl, hb⟩; have KB := Lib.hid (KB.out.trans (hb.mono KB.out.size)); clear hb)
   | (go_at_call 18; (with_reducible refine (livesH_true _).mono ?_); rintro e w10 ⟨rfl, hb⟩; have KB := Lib.hid (KB.out.trans (hb.mono KB.out.size)); clear hb))
  go_ret
  exact ⟨rfl, KW.out.trans (KB.out.mono KW.out.size)⟩
 ·have HZ := Lib.hid hz
  have hne := hz.ne
  have d1 : (z != 0) = true := by rw [bne_iff_ne]; exact hne
  have d2 : (z == 0) = false := by rw [beq_eq_false_iff_ne]; exact hne
  have d3 : (z == z) = true := by simp
  clear hz
  go_wp2_with (first
   | (go_at_call 30; (with_reducible refine (measure_bad va vk T _ z (own_kept HO.out KB.out) HZ.out).mono ?_); rintro e w2 ⟨rfl, hb⟩; have KB := Lib.hid (KB.out.trans (hb.mono KB.out.size)); clear hb)
   | (go_at_call 31; (with_reducible refine (code_bad va vk T _ z (own_kept HO.out KB.out) HZ.out).mono ?_); rintro e w3 ⟨rfl, hb⟩; have KB := Lib.hid (KB.out.trans (hb.mono KB.out.size)); clear hb)
   | (go_at_call 45; (with_reducible refine (perfect_bad va vk T _ z (own_kept HO.out KB.out) HZ.out).mono ?_); rintro e w4 ⟨rfl, hb⟩; have KB := Lib.hid (KB.out.trans (hb.mono KB.out.size)); clear hb)
   | (go_at_call 21; (with_reducible refine (rcheck_any _ T z _ (sqV_own (own_kept HO.out KB.out)) (.inr HZ.out)).mono ?_); rintro e w5 ⟨rfl, hb⟩; have KB := Lib.hid (KB.out.trans (hb.mono KB.out.size)); clear hb)
   | (go_at_call 18; (with_reducible refine (livesH_true _).mono ?_); rintro e w10 ⟨rfl, hb⟩; have KB := Lib.hid (KB.out.trans (hb.mono KB.out.size)); clear hb))
  go_ret
  exact ⟨rfl, KW.out.trans (KB.out.mono KW.out.size)⟩
end Go.Proofs.YtolkchkedieppaaGreat
