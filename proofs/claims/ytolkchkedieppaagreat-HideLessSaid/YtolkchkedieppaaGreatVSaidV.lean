/- HideLess: for every input the law returns true, and each argument reads afterwards as it read before. No conditions. -/
import Derived.Test.YtolkchkedieppaaGreatRows
import Derived.Test.YtolkchkedieppaaGreatVPlainTw
import Derived.Test.YtolkchkedieppaaGreatVLawV
import Derived.JoinedOf
set_option linter.unusedVariables false
set_option linter.unusedSimpArgs false
namespace Go.Proofs.YtolkchkedieppaaGreat
open Go.ChangeShapes Go.WideShapes Go.ChangeAt Go.RowKit Go.Deep
set_option maxHeartbeats 1600000 in
set_option maxRecDepth 100000 in
theorem hideLess_lifted (os : Os) (started : os.Started) (H : Type) (enc : TypeId × Value → H) :
  ReturnsInHanded {} Tryz.checked os 13 .any (Rows.hideLessSpec.pre6 enc Tryz.prog Tryz.f13 Rows.hideLessRow.domain false) (Rows.hideLessSpec.post enc Tryz.prog Tryz.f13 false true false false) := by
 refine returnsInHanded_of_change (C := Tryz.checked) ownGodebug started (by kernel_rfl) Tryz.func13
  (ChangeSpec.witness6 (enc := enc) (C := Tryz.checked) false ⟨#[], #[.int .u8 0, .int .u8 0], []⟩ 8 (by kernel_rfl) (by kernel_rfl) (by kernel_rfl) (by kernel_rfl)) ?_
 intro W base args ds gs before hval0 hW _ _
 have hval : ∀ (j : Nat) t v, Tryz.f13.params[j]? = some t → args[j]? = some v → Value.okWide Tryz.prog W .any base t v := hval0
 have hW' := hW
 obtain ⟨p, q, hA0, hV, rfl, _, _⟩ := hW
 have hA : DataW.TrodAll enc Tryz.prog W 0 (fun _ => true) true Tryz.f13.params.toList args.toList ds p := hA0
 rw [Tryz.params13] at hA hval
 obtain ⟨v0, vs0, d0, ds0, p0, q0, e0, rfl, rfl, h0, r0⟩ := trodAll_cons hA
 obtain ⟨v1, vs1, d1, ds1, p1, q1, e1, f1, g1, h1, r1⟩ := trodAll_cons r0
 subst e1 f1 g1
 obtain ⟨rfl, rfl, rfl⟩ := trodAll_nil r1
 obtain rfl : args = #[v0, v1] := by cases args; simp_all
 obtain ⟨rfl, rfl⟩ := trodVars_none hV
 clear hA0 hval0 hA
 have h0k := h0
 obtain ⟨a0, rfl, rfl, rfl, w0⟩ := open_int Tryz.underlying5 (hval 0 _ v0 rfl rfl) h0
 obtain ⟨b0, c0⟩ := wf_u8 _ w0
 obtain ⟨n0, rfl⟩ := Int.eq_ofNat_of_zero_le b0
 have h1k := h1
 obtain ⟨a1, rfl, rfl, rfl, w1⟩ := open_int Tryz.underlying5 (hval 1 _ v1 rfl rfl) h1
 obtain ⟨b1, c1⟩ := wf_u8 _ w1
 obtain ⟨n1, rfl⟩ := Int.eq_ofNat_of_zero_le b1
 have hlt : ∀ x ∈ (([] : List MemPlace) ++ ([] ++ [])) ++ [], x.block < W.heap.size := fun x hx => hW'.lt x hx
 refine (lawLess n0 n1 W (by omega) (by omega)).mono fun e W' ⟨he, hb⟩ => ?_
 subst he
 have stay : ∀ {t : TypeId} {v : Value} {d : DataW H} {ps : List MemPlace}, Tryz.prog.readableRec t = true → t < Tryz.prog.types.size → DataW.Trod enc Tryz.prog W 0 (fun _ => true) true t v d ps → (∀ x ∈ ps, x ∈ (([] : List MemPlace) ++ ([] ++ [])) ++ []) →
   ∀ sp : Nat → Bool, (∀ x ∈ (([] : List MemPlace) ++ ([] ++ [])) ++ [], sp x.block = true) → DataW.Trod enc Tryz.prog W' 0 sp true t v d ps := fun hr hrow h hin sp hsp =>
  WideElems.Trod_stays laidOutP hr hrow h (fun x hx => hb.same (hlt x (hin x hx))) (fun x hx => hsp x (hin x hx))
 refine ⟨_, rfl, post_of_below (pa := (([] : List MemPlace) ++ ([] ++ []))) (pv := []) hW' (fun _ _ _ => trodAll_cons_mk (shut_bool Tryz.underlying4 _) trodAll_mk0) (fun sp hsp => ?_) (fun _ _ => rfl) (by simp) hb
  (ok_one (by kernel_rfl) rfl (okWide_bool_mk Tryz.underlying4 _))⟩
 exact (trodAll_cons_mk (shut_int Tryz.underlying5 w0) (trodAll_cons_mk (shut_int Tryz.underlying5 w1) trodAll_mk0))
theorem hideLess_holds : Rows.HideLessSaid :=
 OpenClaim.holds_of_wide 13 Tryz.f13 rfl rfl rfl rfl rfl rfl rfl ⟨rfl, rfl, rfl, rfl, rfl⟩ rfl rfl rfl rfl rfl (by kernel_rfl) Tryz.func13 (by kernel_rfl)
  (of_decide_eq_true (by kernel_rfl)) (by unfold Func.isWrapper; first | (rw [if_pos (by decide +kernel)]; kernel_rfl) | (rw [if_neg (by decide +kernel)]; exact ⟨rfl, rfl⟩))
  (fun os started H enc _ => hideLess_lifted os started H enc)
end Go.Proofs.YtolkchkedieppaaGreat
