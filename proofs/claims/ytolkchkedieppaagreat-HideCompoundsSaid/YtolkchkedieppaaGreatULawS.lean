/- The law HideCompounds: its walk. -/
import Derived.Test.YtolkchkedieppaaGreatURCm
import Derived.Test.YtolkchkedieppaaGreatULawQ
import Derived.Test.YtolkchkedieppaaGreatURdF
import Derived.Lib.SliceRun
set_option linter.unusedVariables false
set_option linter.unusedSimpArgs false
namespace Go.Proofs.YtolkchkedieppaaGreat
open Go.RowKit
attribute [local go_sem ↓] Go.wp_at_zero Go.wp_at_succ
set_option maxHeartbeats 8000000 in
set_option maxRecDepth 100000 in
theorem lawCompounds (v : Value) (S0 : List Tr) (w : World) (hv : SqA w v S0) :
  Calls Tryz.prog 11 #[v] w fun e w' => e = .returned (.bool true) ∧ Below w.heap.size w w' := by
 have hfew := few_row v S0 10 w hv (by omega)
 rw [show ((10 : Nat) : Int) = 10 from rfl] at hfew
 have hnil : ∀ (W : World) (x : Option Addr) (n c : Nat), (binOp .neq 22 (.slice x n c) (.slice none 0 0)).run Tryz.prog W = .ok (.bool (!x.isNone)) W := fun W x n c => run_neq_nil W 22 3 x n c 0 0 Tryz.underlying22
 clear hv
 go_enter Tryz.func11, Tryz.ntmps11
 go_upto_region 2 with (go_at_call 19; (with_reducible refine hfew.mono ?_); rintro e w1 ⟨va, vk, T, rfl, hT, ho, hb⟩; have HO := Lib.hid ho; have KW := Lib.hid hb; have HT := Lib.hid hT; clear ho hb hT)
 clear hfew
 have KB := Lib.hid (Below.refl w1.heap.size w1)
 rcases cut_or_bad T with hC | ⟨z, hz⟩
 ·obtain ⟨W, H, hm⟩ := MkC.of_cut hC
  have OT := Lib.hid (ows_of HO.out hm.pos)
  have HM := Lib.hid hm
  have hn24 := hC.few
  have hn10 : T.length ≤ 10 := by
   have e := HT.out
   have hl : T.length = min (fewK S0.length 10) S0.length := by rw [e, List.length_take]
   unfold fewK at hl
   split at hl <;> omega
  have HC := Lib.hid hC
  obtain ⟨S, hS⟩ : ∃ S, S = ordL T T.length := ⟨_, rfl⟩
  have hp : T.Perm S := by
   have := ordL_perm T T.length (Nat.le_refl _)
   rw [List.take_length] at this
   rw [hS]; exact this
  have hs : S.Pairwise (fun a b => ¬ ltS b a) := by rw [hS]; exact ordL_sorted T _
  have HP := Lib.hid hp
  have HS := Lib.hid hs
  have HCS : Hid (CutOK S) := Lib.hid ((hm.perm hp).cut (by rw [← hp.length_eq]; exact hn24))
  clear hC hm hS hp hs
  go_upto_region 3 with (go_at_call 43; go_loud ((with_reducible refine (compound_mk _ T S W H _ (OT.out.below KB.out) HM.out hn24 HP.out HS.out).mono ?_); rintro e w2 ⟨A, vb, er, hB, hA, rfl, rfl, hbm⟩; have HB := Lib.hid hB; have BM := Lib.hid hbm; have KB := Lib.hid (KB.out.trans (hbm.kb.mono KB.out.size)); clear hB hbm))
  have KC := Lib.hid (Below.refl w2.heap.size w2)
  have RC : Hid (∀ w3, Below w1.heap.size w1 w3 → Calls Tryz.prog 44 #[.slice va T.length vk] w3 fun e w' => ∃ ub, e = .returned ub ∧ BsM w3 w' ub A) := Lib.hid (fun w3 hb => by
   refine (rcompound_mk _ T S W H w3 (OT.out.below hb) HM.out hn10 HP.out HS.out).mono ?_
   rintro e w' ⟨A2, ub, hB2, rfl, hbm⟩
   obtain rfl := hB2.uniq (fun A => (cand_iff HCS.out A).symm) HB.out
   exact ⟨ub, rfl, hbm⟩)
  rcases BM.out.sh with ⟨rfl, rfl⟩ | ⟨hne, g, c, rfl⟩
  ·rw [if_pos rfl]
   go_upto_region 6 with (first
    | (go_at_call 21; go_loud ((with_reducible refine (rcheck_any _ T 0 _ (OT.out.below KB.out).sqV (.inl ⟨HC.out, rfl⟩)).mono ?_); rintro e w5 ⟨rfl, hb⟩; have KB := Lib.hid (KB.out.trans (hb.mono KB.out.size)); clear hb))
    | (go_at_call 44; go_loud ((with_reducible refine (RC.out _ KB.out).mono ?_); rintro e w6 ⟨ub, rfl, hbm⟩; have BM2 := Lib.hid hbm; have KB := Lib.hid (KB.out.trans (hbm.kb.mono KB.out.size)); clear hbm)))
   rcases BM2.out.sh with ⟨_, rfl⟩ | ⟨hne, _⟩
   ·go_wp2_with (go_at_call 18; go_loud ((with_reducible refine (livesH_true _).mono ?_); rintro e w10 ⟨rfl, hb⟩; have KB := Lib.hid (KB.out.trans (hb.mono KB.out.size)); clear hb))
    go_ret
    exact ⟨rfl, KW.out.trans (KB.out.mono KW.out.size)⟩
   ·exact absurd rfl hne
  ·rw [if_neg hne]
   have HNE := Lib.hid hne
   have HI := Lib.hid (list_ints BM.out.own)
   clear hne
   go_upto_region 6 with (first
    | (go_at_call 21; go_loud ((with_reducible refine (rcheck_any _ T 0 _ (OT.out.below KB.out).sqV (.inl ⟨HC.out, rfl⟩)).mono ?_); rintro e w5 ⟨rfl, hb⟩; have KB := Lib.hid (KB.out.trans (hb.mono KB.out.size)); have KC := Lib.hid (KC.out.trans (hb.mono KC.out.size)); clear hb))
    | (go_at_call 44; go_loud ((with_reducible refine (RC.out _ KB.out).mono ?_); rintro e w6 ⟨ub, rfl, hbm⟩; have BM2 := Lib.hid hbm; have KB := Lib.hid (KB.out.trans (hbm.kb.mono KB.out.size)); have KC := Lib.hid (KC.out.trans (hbm.kb.mono KC.out.size)); clear hbm)))
   rcases BM2.out.sh with ⟨hne, _⟩ | ⟨_, g2, c2, rfl⟩
   ·exact absurd hne HNE.out
   ·have HJ := Lib.hid (list_ints BM2.out.own)
    have hss := same_same _ _ A.length (lsF A) _ (HI.out.mono KC.out (Nat.le_refl _)) HJ.out (by omega)
    go_wp2_with (first
     | (go_at_call 40; go_loud ((with_reducible refine hss.mono ?_); rintro e w8 ⟨rfl, hd⟩; have KB := Lib.hid (KB.out.trans (hd.below _)); clear hd))
     | (go_at_call 18; go_loud ((with_reducible refine (livesH_true _).mono ?_); rintro e w10 ⟨rfl, hb⟩; have KB := Lib.hid (KB.out.trans (hb.mono KB.out.size)); clear hb)))
    go_ret
    exact ⟨rfl, KW.out.trans (KB.out.mono KW.out.size)⟩
 ·have HZ := Lib.hid hz
  have hne := hz.ne
  have d1 : (z != 0) = true := by rw [bne_iff_ne]; exact hne
  have d2 : (z == 0) = false := by rw [beq_eq_false_iff_ne]; exact hne
  have d3 : (z == z) = true := by simp
  clear hz
  go_wp2_with (first
   | (go_at_call 43; go_loud ((with_reducible refine (compound_bad va vk T _ z (own_kept HO.out KB.out) HZ.out).mono ?_); rintro e w2 ⟨rfl, hb⟩; have KB := Lib.hid (KB.out.trans (hb.mono KB.out.size)); clear hb))
   | (go_at_call 21; go_loud ((with_reducible refine (rcheck_any _ T z _ (sqV_own (own_kept HO.out KB.out)) (.inr HZ.out)).mono ?_); rintro e w5 ⟨rfl, hb⟩; have KB := Lib.hid (KB.out.trans (hb.mono KB.out.size)); clear hb))
   | (go_at_call 18; go_loud ((with_reducible refine (livesH_true _).mono ?_); rintro e w10 ⟨rfl, hb⟩; have KB := Lib.hid (KB.out.trans (hb.mono KB.out.size)); clear hb)))
  go_ret
  exact ⟨rfl, KW.out.trans (KB.out.mono KW.out.size)⟩
end Go.Proofs.YtolkchkedieppaaGreat
