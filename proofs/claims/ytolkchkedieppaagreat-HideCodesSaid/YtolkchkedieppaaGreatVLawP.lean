/- The law HideCodes: its walk. -/
import Derived.Test.YtolkchkedieppaaGreatVMcA
import Derived.Test.YtolkchkedieppaaGreatVLivH
import Derived.Deep.RegionHeld3
set_option linter.unusedVariables false
set_option linter.unusedSimpArgs false
namespace Go.Proofs.YtolkchkedieppaaGreat
open Go.RowKit
attribute [local go_sem ↓] Go.wp_at_zero Go.wp_at_succ
set_option maxHeartbeats 8000000 in
set_option maxRecDepth 100000 in
theorem lawCodes (v : Value) (n0 : Nat) (g : Nat → Nat) (t : Nat) (w : World) (hv : By8 w v n0 g) (hn0 : n0 ≤ 9223372036854775807) (ht : t < 256) :
  Calls Tryz.prog 7 #[v, .int .u8 (t : Nat)] w fun e w' => e = .returned (.bool true) ∧ Below w.heap.size w w' := by
 have HMD := madeS_any v n0 24 g w hv hn0 (by omega) (by omega)
 rw [show ((24 : Nat) : Int) = 24 from rfl] at HMD
 obtain ⟨i0, hinf, hz0, hz1, hz2⟩ := info_parts infoSq
 clear hv
 go_enter Tryz.func7, Tryz.ntmps7
 go_upto_region 2 with (first
  | (go_at_call 23; (with_reducible refine HMD.mono ?_); rintro e w1 ⟨ma, mk, L, W, H, rfl, MD⟩))
 clear HMD
 obtain ⟨gb, gc, hvs, hbg, hgl, hgc, TRL⟩ := (ows_of MD.out.own MD.out.mkc.pos).ex
 injection hvs with u1 u2 u3
 subst u1; subst u3
 clear u2
 have hLn := MD.out.len
 have hLp := MD.out.mkc.pos
 have MK := Lib.hid MD.out.mkc
 have KW := Lib.hid MD.out.kb
 have TR := Lib.hid TRL
 have HLT := Lib.hid hgl
 clear MD TRL hbg
 obtain ⟨n, hn⟩ : ∃ n, n = L.length := ⟨_, rfl⟩
 rw [← hn] at hLn hLp hgc ⊢
 have HN := Lib.hid hn
 clear hn
 obtain ⟨k, hk⟩ : ∃ k, k = t % n := ⟨_, rfl⟩
 have hkn : k < n := by rw [hk]; exact Nat.mod_lt _ hLp
 have t1 : Int.tmod (t : Int) (n : Int) = (k : Int) := by rw [hk]; rfl
 have t2 : (t : Int) % (n : Int) = (k : Int) := by rw [hk]; rfl
 have w3 : IntKind.i64.wrap (k : Int) = (k : Int) := by rw [IntKind.wrap_i64]; omega
 have w4 : IntKind.i64.wrap (t : Int) = (t : Int) := by rw [IntKind.wrap_i64]; omega
 have hne : ¬ (n : Int) = 0 := by omega
 have hne2 : (n : Int) ≠ 0 := by omega
 have hneb : ((n : Int) == 0) = false := by rw [beq_eq_false_iff_ne]; exact hne
 clear hk
 go_upto_region 3 with (fail)
 have hkle : k ≤ n := by omega
 have hkoc : k ≤ mk := by omega
 have hck : ¬ mk = k := by omega
 have hsz := sliced_zero
 have hsl : sliced (some ⟨gb, 0, none⟩) k n mk 3 = .slice (some ⟨gb, k * 3, none⟩) (n - k) (mk - k) := by
  unfold sliced
  rw [if_neg hck, Option.map_some, add_at, Nat.zero_add]
 have hif : (if mk = k then some (⟨gb, 0, none⟩ : Addr) else some ⟨gb, k * 3, none⟩) = some ⟨gb, k * 3, none⟩ := if_neg hck
 have HLN1 := Lib.hid (show (trL (L.drop k)).length = (n - k) * 3 by rw [trL_len, List.length_drop, ← HN.out])
 have HLN2 := Lib.hid (show (trL (L.take k)).length = k * 3 by rw [trL_len, List.length_take, ← HN.out, Nat.min_eq_left hkle])
 obtain ⟨wO, hwO⟩ : ∃ x : World, x = w1.drew := ⟨_, rfl⟩
 have VB := Lib.hid (show Below w1.heap.size w1 wO by rw [hwO]; exact (Below.refl _ _).drew)
 have HWO := Lib.hid hwO
 clear hwO
 have HN1 : Hid (∀ wx, Below wO.heap.size wO wx → ∀ j u, (trL (L.drop k))[j]? = some u → wx.cell? ((⟨gb, k * 3, none⟩ : Addr).add j) = some u) := Lib.hid (fun wx hb j u hj => by
  have hj2 := trL_drop (by rw [← HN.out]; exact hkle) hj
  rw [add_at]
  have h3 := trR_news (TR.out.below (VB.out.trans (hb.mono VB.out.size)) HLT.out) (k * 3 + j) u hj2
  rw [add_at, Nat.zero_add] at h3
  exact h3)
 have HN2 : Hid (∀ wx, Below wO.heap.size wO wx → ∀ j u, (trL (L.take k))[j]? = some u → wx.cell? ((⟨gb, 0, none⟩ : Addr).add j) = some u) := Lib.hid (fun wx hb j u hj =>
  trR_news (TR.out.below (VB.out.trans (hb.mono VB.out.size)) HLT.out) j u (trL_take hj))
 have VL := Lib.hid (Below.refl wO.heap.size wO)
 have KO := Lib.hid (KW.out.trans (VB.out.mono KW.out.size))
 refine wp_region_held_drew (S := fun _ => True) (by kernel_rfl) trivial (fun hHeld => ?_)
 rw [← HWO.out]
 refine wpAnyH_take (i := 1) (v := ?_) rfl (by kernel_rfl) (by kernel_rfl) (by kernel_rfl) (fun _ _ _ h => h) (Or.inl ⟨by kernel_rfl, ?_⟩) (by assumption) ?_
 rotate_left
 ·(intro w0 hSw; (try dsimp only at hSw); go_simp; all_goals (with_reducible rfl))
 simp only [Act.put, List.setIfInBounds_toArray, List.set_cons_zero, List.set_cons_succ]
 refine wpAnyH_take (i := 2) (v := ?_) rfl (by kernel_rfl) (by kernel_rfl) (by kernel_rfl) (fun _ _ _ h => h) (Or.inl ⟨by kernel_rfl, ?_⟩) (by assumption) ?_
 rotate_left
 ·(intro w0 hSw; (try dsimp only at hSw); go_simp; all_goals (with_reducible rfl))
 simp only [Act.put, List.setIfInBounds_toArray, List.set_cons_zero, List.set_cons_succ]
 refine wpAnyH_take (i := 3) (v := ?_) rfl (by kernel_rfl) (by kernel_rfl) (by kernel_rfl) (fun _ _ _ h => h) (Or.inl ⟨by kernel_rfl, ?_⟩) (by assumption) ?_
 rotate_left
 ·(intro w0 hSw; (try dsimp only at hSw); go_simp; all_goals (with_reducible rfl))
 simp only [Act.put, List.setIfInBounds_toArray, List.set_cons_zero, List.set_cons_succ]
 refine wpAnyH_take (i := 5) (v := ?_) rfl (by kernel_rfl) (by kernel_rfl) (by kernel_rfl) (fun _ _ _ h => h) (Or.inl ⟨by kernel_rfl, ?_⟩) (by assumption) ?_
 rotate_left
 ·(intro w0 hSw; (try dsimp only at hSw); go_simp; all_goals (with_reducible rfl))
 simp only [Act.put, List.setIfInBounds_toArray, List.set_cons_zero, List.set_cons_succ]
 refine wpAnyH_take (i := 6) (v := ?_) rfl (by kernel_rfl) (by kernel_rfl) (by kernel_rfl) (fun _ _ _ h => h) (Or.inl ⟨by kernel_rfl, ?_⟩) (by assumption) ?_
 rotate_left
 ·(intro w0 hSw; (try dsimp only at hSw); go_simp; all_goals (with_reducible rfl))
 simp only [Act.put, List.setIfInBounds_toArray, List.set_cons_zero, List.set_cons_succ]
 refine wpAnyH_take (i := 7) (v := ?_) rfl (by kernel_rfl) (by kernel_rfl) (by kernel_rfl) (fun _ _ _ h => h) (Or.inl ⟨by kernel_rfl, ?_⟩) (by assumption) ?_
 rotate_left
 ·(intro w0 hSw; (try dsimp only at hSw); go_simp; all_goals (with_reducible rfl))
 simp only [Act.put, List.setIfInBounds_toArray, List.set_cons_zero, List.set_cons_succ]
 refine wpAnyH_ready (rs := [0]) (by kernel_rfl) (by simp) ?_
 refine AllReadyH.cons rfl (fun Kn hKn => ?_) AllReadyH.nil
 go_simp
 have OWN : Hid ((wO.alloc (.cells #[] 47)).ownsRow wO.heap.size 47 3 (.slice (some ⟨wO.heap.size, 0, none⟩) 0 0) 0 []) := Lib.hid (World.ownsRow_made wO #[] 0 (Nat.le_refl _) (by unfold maxLen; omega) rfl)
 have VL := Lib.hid (VL.out.alloc VL.out.size (.cells #[] 47))
 refine hKn.out _ _ ?_ (fun hHeld => ?_)
 ·trivial
 clear hKn Kn
 (try simp only [Act.put, List.setIfInBounds_toArray, List.set_cons_zero, List.set_cons_succ])
 obtain ⟨v0, hv0⟩ : ∃ v0, v0 = Value.slice (some ⟨wO.heap.size, 0, none⟩) 0 0 := ⟨_, rfl⟩
 rw [← hv0] at OWN ⊢
 clear hv0
 generalize wO.alloc (.cells #[] 47) = wE at OWN VL hHeld ⊢
 refine wpAnyH_ready (rs := [4]) (by kernel_rfl) (by simp) ?_
 refine AllReadyH.cons rfl (fun Kn hKn => ?_) AllReadyH.nil
 refine step_append_own (by rfl) _ _ _ (by rfl) wO.heap.size 47 i0 _ 3 24 Tryz.underlying23 hinf hz0 hz1 hz2 rfl (by decide) v0 0 [] (by rfl) OWN.out ⟨gb, k * 3, none⟩ (n - k) _ (trL (L.drop k)) (by rfl) HLN1.out (HN1.out _ VL.out) (trL_one _) (by unfold maxLen; omega) (by omega) VL.out.size ?_
 intro va w5 hown hgrow
 have VL := Lib.hid (VL.out.grown hgrow VL.out.size (fun kk e => (OWN.out.lt kk e).1))
 have OWN := Lib.hid hown
 clear hown hgrow
 refine hKn.out _ _ ?_ (fun hHeld => ?_)
 ·trivial
 clear hKn Kn
 (try simp only [Act.put, List.setIfInBounds_toArray, List.set_cons_zero, List.set_cons_succ])
 rw [Nat.zero_add, List.nil_append] at OWN
 refine wpAnyH_ready (rs := [8]) (by kernel_rfl) (by simp) ?_
 refine AllReadyH.cons rfl (fun Kn hKn => ?_) AllReadyH.nil
 refine step_append_own (by rfl) _ _ _ (by rfl) wO.heap.size 47 i0 _ 3 24 Tryz.underlying23 hinf hz0 hz1 hz2 rfl (by decide) va (n - k) (trL (L.drop k)) (by rfl) OWN.out ⟨gb, 0, none⟩ k _ (trL (L.take k)) (by rfl) HLN2.out (HN2.out _ VL.out) (trL_one _) (by unfold maxLen; omega) (by omega) VL.out.size ?_
 intro vb w7 hown hgrow
 have VL := Lib.hid (VL.out.grown hgrow VL.out.size (fun kk e => (OWN.out.lt kk e).1))
 have OWN := Lib.hid hown
 clear hown hgrow
 refine hKn.out _ _ ?_ (fun hHeld => ?_)
 ·trivial
 clear hKn Kn
 (try simp only [Act.put, List.setIfInBounds_toArray, List.set_cons_zero, List.set_cons_succ])
 refine wpAnyH_take (i := 9) (v := ?_) rfl (by kernel_rfl) (by kernel_rfl) (by kernel_rfl) (fun _ _ _ h => h) (Or.inl ⟨by kernel_rfl, ?_⟩) (by assumption) ?_
 rotate_left
 ·(intro w0 hSw; (try dsimp only at hSw); go_simp; all_goals (with_reducible rfl))
 simp only [List.getElem_toArray, List.getElem_cons_succ, List.getElem_cons_zero, Act.put, List.setIfInBounds_toArray, List.set_cons_zero, List.set_cons_succ]
 refine wpAnyH_done (by kernel_rfl) ?_ _
 have HM : Hid (MkC (L.drop k ++ L.take k) W H) := Lib.hid (MK.out.perm (by
  have := List.perm_append_comm (l₁ := L.drop k) (l₂ := L.take k)
  rw [List.take_append_drop] at this
  exact this.symm))
 have HML : (L.drop k ++ L.take k).length = n := by rw [List.length_append, List.length_drop, List.length_take, ← HN.out]; omega
 have OWM : Hid (OwS wO.heap.size w7 vb (L.drop k ++ L.take k)) := Lib.hid (ows_of (by
  have h := OWN.out
  rw [← trL_app, show n - k + k = (L.drop k ++ L.take k).length by rw [HML]; omega] at h
  exact h) (by rw [HML]; exact hLp))
 have KW7 := Lib.hid (KO.out.trans (VL.out.mono KO.out.size))
 obtain ⟨M, hM⟩ : ∃ M, M = L.drop k ++ L.take k := ⟨_, rfl⟩
 rw [← hM] at HM HML OWM
 have HL24 : Hid (M.length ≤ 24) := Lib.hid (by omega)
 have KB := Lib.hid (Below.refl w7.heap.size w7)
 clear hM OWN VL HN1 HN2 TR HLT KW KO VB HWO MK HLN1 HLN2 t1 t2 w3 w4 hne hne2 hneb hsl hif hck hkoc hkle
 go_wp2_with (first
  | (go_at_call 31; (with_reducible refine (code_mk _ M W H _ (OWM.out.below KB.out) HM.out HL24.out).mono ?_); rintro e w9 ⟨ca, ck, S, rfl, hp, hs, hmS, hSl, hi, hb⟩; have HP := Lib.hid hp; have HS := Lib.hid hs; have HMS := Lib.hid hmS; have HSL := Lib.hid hSl; have HI := Lib.hid hi; have KB := Lib.hid (KB.out.trans (hb.mono KB.out.size)); clear hp hs hmS hSl hi hb)
  | (go_at_call 15; (with_reducible refine (lay_mk _ S W H _ HI.out HMS.out (by rw [HSL.out]; exact HL24.out) HS.out).mono ?_); rintro e wl ⟨la, lk, rfl, ho, hb⟩; have OL := Lib.hid ho; have KB := Lib.hid (KB.out.trans (hb.mono KB.out.size)); have KL := Lib.hid (Below.refl wl.heap.size wl); clear ho hb)
  | (go_at_call 32; (with_reducible refine (order_mk _ M S W H _ (OWM.out.below KB.out) HM.out HL24.out HP.out HS.out).mono ?_); rintro e w11 ⟨oa, ok, rfl, ho, hb⟩; have OO := Lib.hid ho; have KB := Lib.hid (KB.out.trans (hb.mono KB.out.size)); have KL := Lib.hid (KL.out.trans (hb.mono KL.out.size)); clear ho hb)
  | (go_at_call 17; (with_reducible refine (hsame_eq _ _ S _ (OL.out.below KL.out).sqV OO.out.sqV (by have := HSL.out; have := HL24.out; omega)).mono ?_); rintro e w12 ⟨rfl, hd⟩; have KB := Lib.hid (KB.out.trans (hd.below _)); have KL := Lib.hid (KL.out.trans (hd.below _)); clear hd)
  | (go_at_call 18; (with_reducible refine (livesH_true _).mono ?_); rintro e w13 ⟨rfl, hb⟩; have KB := Lib.hid (KB.out.trans (hb.mono KB.out.size)); have KL := Lib.hid (KL.out.trans (hb.mono KL.out.size)); clear hb)
  | (go_at_call 30; (with_reducible refine (measure_mk _ S W H _ (OL.out.below KL.out) HMS.out (by rw [HSL.out]; exact HL24.out)).mono ?_); rintro e w14 ⟨rfl, hb⟩; have KB := Lib.hid (KB.out.trans (hb.mono KB.out.size)); clear hb)
  | (go_at_call 30; (with_reducible refine (measure_mk _ M W H _ (OWM.out.below KB.out) HM.out HL24.out).mono ?_); rintro e w8 ⟨rfl, hb⟩; have KB := Lib.hid (KB.out.trans (hb.mono KB.out.size)); clear hb))
 go_ret
 exact ⟨rfl, KW7.out.trans (KB.out.mono KW7.out.size)⟩
end Go.Proofs.YtolkchkedieppaaGreat
