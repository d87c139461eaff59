/- HideTutte: for every input the law returns true, and each argument reads afterwards as it read before. No conditions. -/
import Derived.Test.YtolkchkedieppaaGreatRows
import Derived.Test.YtolkchkedieppaaGreatVTakes
import Derived.Test.YtolkchkedieppaaGreatVLawW
import Derived.JoinedOf
set_option linter.unusedVariables false
set_option linter.unusedSimpArgs false
namespace Go.Proofs.YtolkchkedieppaaGreat
open Go.ChangeShapes Go.WideShapes Go.ChangeAt Go.RowKit Go.Deep
set_option maxHeartbeats 1600000 in
set_option maxRecDepth 100000 in
theorem hideTutte_lifted (os : Os) (started : os.Started) (H : Type) (enc : TypeId × Value → H) :
  ReturnsInHanded {} Tryz.checked os 8 .any (Rows.hideTutteSpec.pre6 enc Tryz.prog Tryz.f8 Rows.hideTutteRow.domain false) (Rows.hideTutteSpec.post enc Tryz.prog Tryz.f8 false true false false) := by
 refine returnsInHanded_of_change (C := Tryz.checked) ownGodebug started (by kernel_rfl) Tryz.func8
  (ChangeSpec.witness6 (enc := enc) (C := Tryz.checked) false ⟨#[], #[.slice none 0 0, .bool false], []⟩ 8 (by kernel_rfl) (by kernel_rfl) (by kernel_rfl) (by kernel_rfl)) ?_
 intro W base args ds gs before hval0 hW _ _
 have hval : ∀ (j : Nat) t v, Tryz.f8.params[j]? = some t → args[j]? = some v → Value.okWide Tryz.prog W .any base t v := hval0
 have hW' := hW
 obtain ⟨p, q, hA0, hV, rfl, _, _⟩ := hW
 have hA : DataW.TrodAll enc Tryz.prog W 0 (fun _ => true) true Tryz.f8.params.toList args.toList ds p := hA0
 rw [Tryz.params8] at hA hval
 obtain ⟨v0, vs0, d0, ds0, p0, q0, e0, rfl, rfl, h0, r0⟩ := trodAll_cons hA
 obtain ⟨v1, vs1, d1, ds1, p1, q1, e1, f1, g1, h1, r1⟩ := trodAll_cons r0
 subst e1 f1 g1
 obtain ⟨rfl, rfl, rfl⟩ := trodAll_nil r1
 obtain rfl : args = #[v0, v1] := by cases args; simp_all
 obtain ⟨rfl, rfl⟩ := trodVars_none hV
 clear hA0 hval0 hA
 obtain ⟨n0, f0, s0, b0, l0⟩ := nats_of_trod Tryz.underlying42 Tryz.underlying5 (by kernel_rfl) wf_u8 (hval 0 _ v0 rfl rfl) h0
 obtain ⟨a1, rfl, rfl, rfl⟩ := open_bool Tryz.underlying4 (hval 1 _ v1 rfl rfl) h1
 have hlt : ∀ x ∈ (p0 ++ ([] ++ [])) ++ [], x.block < W.heap.size := fun x hx => hW'.lt x hx
 refine (lawTutte v0 n0 f0 a1 W ⟨s0, fun i hi => by have := b0 i hi; omega⟩ l0).mono fun e W' ⟨he, hb⟩ => ?_
 subst he
 have stay : ∀ {t : TypeId} {v : Value} {d : DataW H} {ps : List MemPlace}, Tryz.prog.readableRec t = true → t < Tryz.prog.types.size → DataW.Trod enc Tryz.prog W 0 (fun _ => true) true t v d ps → (∀ x ∈ ps, x ∈ (p0 ++ ([] ++ [])) ++ []) →
   ∀ sp : Nat → Bool, (∀ x ∈ (p0 ++ ([] ++ [])) ++ [], sp x.block = true) → DataW.Trod enc Tryz.prog W' 0 sp true t v d ps := fun hr hrow h hin sp hsp =>
  WideElems.Trod_stays laidOutP hr hrow h (fun x hx => hb.same (hlt x (hin x hx))) (fun x hx => hsp x (hin x hx))
 refine ⟨_, rfl, post_of_below (pa := (p0 ++ ([] ++ []))) (pv := []) hW' (fun _ _ _ => trodAll_cons_mk (shut_bool Tryz.underlying4 _) trodAll_mk0) (fun sp hsp => ?_) (fun _ _ => rfl) (by simp) hb
  (ok_one (by kernel_rfl) rfl (okWide_bool_mk Tryz.underlying4 _))⟩
 exact (trodAll_cons_mk (stay (by kernel_rfl) (of_decide_eq_true (by kernel_rfl)) h0 (fun x hx => by simp [hx]) sp hsp) (trodAll_cons_mk (shut_bool Tryz.underlying4 _) trodAll_mk0))
theorem hideTutte_holds : Rows.HideTutteSaid :=
 OpenClaim.holds_of_wide 8 Tryz.f8 rfl rfl rfl rfl rfl rfl rfl ⟨rfl, rfl, rfl, rfl, rfl⟩ rfl rfl rfl rfl rfl (by kernel_rfl) Tryz.func8 (by kernel_rfl)
  (of_decide_eq_true (by kernel_rfl)) (by unfold Func.isWrapper; first | (rw [if_pos (by decide +kernel)]; kernel_rfl) | (rw [if_neg (by decide +kernel)]; exact ⟨rfl, rfl⟩))
  (fun os started H enc _ => hideTutte_lifted os started H enc)
end Go.Proofs.YtolkchkedieppaaGreat
