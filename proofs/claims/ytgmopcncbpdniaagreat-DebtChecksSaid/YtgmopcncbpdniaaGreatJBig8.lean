import Derived.Test.YtgmopcncbpdniaaGreatJInt2
set_option linter.unusedVariables false
set_option linter.unusedSimpArgs false
namespace Go.Proofs.YtgmopcncbpdniaaGreat
open Go.RowKit
attribute [local go_sem ↓] Go.wp_at_zero Go.wp_at_succ
theorem Dg.setCell {w:World} {v:Value} {x:Nat} (h:Dg w v x) {p:Addr} {v0:Value} (u:Value) (hp:w.cell? p=some v0) (hne:NoInt v0):Dg (w.setCell p u) v x:=by
  obtain⟨a,b,o,c,rfl,hs⟩:=h
  exact⟨a,b,o,c,rfl,hs.setCell u hp (fun i _ e=>hne _ _ e.symm)⟩
theorem Dg.store2 {w : World} {v : Value} {x b : Nat} (h : Dg w v x) (u0 u1 : Value) {v0 v1 : Value} (h0 : w.cell? ⟨b, 0, none⟩ = some v0) (h1 : w.cell? ⟨b, 1, none⟩ = some v1) (n0 : NoInt v0) (n1 : NoInt v1) :
    Dg ((w.setCell ⟨b,0,none⟩ u0).setCell ⟨b,1,none⟩ u1) v x:=
  (h.setCell u0 h0 n0).setCell u1 (by rw [cell?_setCell_ne' _ _ _ _ (by intro e;cases e) rfl rfl];exact h1) n1
theorem Dg.drew {w:World} {v:Value} {x:Nat} (h:Dg w v x):Dg w.drew v x:=h.drawn (Drawn.of w 1)
theorem lean_val (u : Value) (s : Bool) (n : Nat) (f : Nat → Nat) (x : Nat) (w : World) (hu : Raw w u n f) (hf : ∀ i, i < n → f i < 10000) (hx : valD f n = x) (hn : n ≤ 1099511627776) :
    Calls Tryz.prog 78 #[.agg #[.bool s,u]] w fun e w'=>∃ a c,e = .returned (.agg #[.bool (s && decide (0<x)),.slice a (nd x) c])∧Dg w' (.slice a (nd x) c) x∧Below w.heap.size w w':=by
  subst hx
  refine (lean_any u s n f w hu hf hn).mono ?_
  rintro e w' ⟨u',rfl,⟨a,b,o,c,rfl,hs⟩,hb⟩
  exact⟨a,c,rfl,⟨a,b,o,c,rfl,hs⟩,hb⟩
set_option maxHeartbeats 2000000 in
theorem zadd_same (u v : Value) (s : Bool) (x y : Nat) (w : World) (hu : Dg w u x) (hv : Dg w v y) (bx : nd x ≤ 549755813888) (b_y : nd y ≤ 549755813888) :
    Calls Tryz.prog 47 #[.agg #[.bool s,u],.agg #[.bool s,v]] w fun e w'=>∃ r,e = .returned (.agg #[.bool (s && decide (0<x+y)),r])∧Dg w' r (x+y)∧Below w.heap.size w w':=by
  have HU:=Lib.hid hu
  have HV:=Lib.hid hv
  obtain⟨a1,b1,o1,c1,rfl,i1⟩:=hu
  obtain⟨a2,b2,o2,c2,rfl,i2⟩:=hv
  have HB:Hid (Below w.heap.size w (((w.alloc (Obj.cells #[Value.bool s,Value.slice a1 (nd x) c1] 38)).alloc (Obj.cells #[Value.bool s,Value.slice a2 (nd y) c2] 38)).alloc (Obj.cells #[.bool false,.slice none 0 0] 38))):=boxes3 w _ _ _
  have hss:(s == s)=true:=by simp
  clear i1 i2
  go_enter Tryz.func47,Tryz.ntmps47
  go_wp2
  go_region_held3 (fun w'=>w'.cell? ⟨w.heap.size,0,none⟩=some (.bool s)∧w'.cell? ⟨w.heap.size,1,none⟩=some (.slice a1 (nd x) c1)∧w'.cell? ⟨w.heap.size+1,1,none⟩=some (.slice a2 (nd y) c2)) (go_keep)
    (first
      | (go_at_call 79;refine (bplus_any _ _ x y _ ((HU.out.mono HB.out (Nat.le_refl _)).drew) ((HV.out.mono HB.out (Nat.le_refl _)).drew) (by omega) (by omega)).mono ?_;rintro e w1 ⟨r,n1,f1,rfl,⟨a3,b3,o3,c3,rfl,i3⟩,hf1,hval,hn1,hb⟩;have HF1:=Lib.hid hf1;have HVL:=Lib.hid hval;have HI3:Hid (Raw w1 (.slice a3 n1 c3) n1 f1):=Lib.hid ⟨a3,b3,o3,c3,rfl,i3⟩;have hn2:n1≤1099511627776:=(by omega);obtain⟨q1,q2,q3,q4,q5,q6,hz1,HB1⟩:=kept3 (w:=w) hb (by simp) (HB.out.drew);clear hf1 hval i3 hn1)
      | (go_at_call 78;refine (lean_val _ _ n1 f1 (x+y) _ HI3.out HF1.out HVL.out hn2).mono ?_;rintro e w2 ⟨a4,c4,rfl,hm2,hb2⟩;have HM2:=Lib.hid hm2;obtain⟨p1,p2,p3,p4,p5,p6,hz2,HB2⟩:=kept3 (w:=w) hb2 hz1 HB1.out;clear hm2))
  go_wp2
  refine bodyPost_ret (v:=.agg #[.bool (s && decide (0<x+y)),.slice a4 (nd (x+y)) c4]) (by simp [results,Tryz.results47,go_sem,q1,q2,q3,q4,q5,q6,p1,p2,p3,p4,p5,p6]) rfl ?_
  exact⟨_,rfl,HM2.out.store2 _ _ (v0:=.bool false) (v1:=.slice none 0 0) (by rw [p3,q3];simp [go_sem]) (by rw [p3,q3];simp [go_sem]) (noInt_bool _) (noInt_slice _ _ _),(HB2.out.setCell (by simp;omega) _).setCell (by simp;omega) _⟩
set_option maxHeartbeats 2000000 in
theorem zadd_tf_ge (u v : Value) (x y : Nat) (w : World) (hu : Dg w u x) (hv : Dg w v y) (hle : y ≤ x) (bx : nd x ≤ 549755813888) (b_y : nd y ≤ 549755813888) :
    Calls Tryz.prog 47 #[.agg #[.bool true,u],.agg #[.bool false,v]] w fun e w'=>∃ r,e = .returned (.agg #[.bool (true && decide (0<x - y)),r])∧Dg w' r (x - y)∧Below w.heap.size w w':=by
  have HU:=Lib.hid hu
  have HV:=Lib.hid hv
  obtain⟨a1,b1,o1,c1,rfl,i1⟩:=hu
  obtain⟨a2,b2,o2,c2,rfl,i2⟩:=hv
  have HB:Hid (Below w.heap.size w (((w.alloc (Obj.cells #[Value.bool true,Value.slice a1 (nd x) c1] 38)).alloc (Obj.cells #[Value.bool false,Value.slice a2 (nd y) c2] 38)).alloc (Obj.cells #[.bool false,.slice none 0 0] 38))):=boxes3 w _ _ _
  have HLE:=Lib.hid hle
  have HCM:=Lib.hid (fun W=>sizes_any (.slice a1 (nd x) c1) (.slice a2 (nd y) c2) x y W)
  have hcm:0≤cmpN x y:=by unfold cmpN;rw [if_neg (by omega)];split <;> omega
  clear hle i1 i2
  go_enter Tryz.func47,Tryz.ntmps47
  go_wp2_with (go_at_call 80;refine (HCM.out _ (HU.out.mono HB.out (Nat.le_refl _)) (HV.out.mono HB.out (Nat.le_refl _)) (by omega) (by omega)).mono ?_;rintro e w' ⟨rfl,hd⟩;obtain⟨nq,rfl⟩:=hd)
  go_region_held3 (fun w'=>w'.cell? ⟨w.heap.size,0,none⟩=some (.bool true)∧w'.cell? ⟨w.heap.size,1,none⟩=some (.slice a1 (nd x) c1)∧w'.cell? ⟨w.heap.size+1,1,none⟩=some (.slice a2 (nd y) c2)) (go_keep)
    (first
      | (go_at_call 81;refine (bless_any _ _ x y _ (((HU.out.mono HB.out (Nat.le_refl _)).drawn (Drawn.of _ nq)).drew) (((HV.out.mono HB.out (Nat.le_refl _)).drawn (Drawn.of _ nq)).drew) HLE.out (by omega)).mono ?_;rintro e w1 ⟨r,f1,rfl,⟨a3,b3,o3,c3,rfl,i3⟩,hf1,hval,hb⟩;have HF1:=Lib.hid hf1;have HVL:=Lib.hid hval;have HI3:Hid (Raw w1 (.slice a3 (nd x) c3) (nd x) f1):=Lib.hid ⟨a3,b3,o3,c3,rfl,i3⟩;have hn2:nd x≤1099511627776:=(by omega);obtain⟨q1,q2,q3,q4,q5,q6,hz1,HB1⟩:=kept3 (w:=w) hb (by simp) ((below_drawN HB.out nq).drew);clear hf1 hval i3)
      | (go_at_call 78;refine (lean_val _ _ (nd x) f1 (x - y) _ HI3.out HF1.out HVL.out hn2).mono ?_;rintro e w2 ⟨a4,c4,rfl,hm2,hb2⟩;have HM2:=Lib.hid hm2;obtain⟨p1,p2,p3,p4,p5,p6,hz2,HB2⟩:=kept3 (w:=w) hb2 hz1 HB1.out;clear hm2))
  go_wp2
  refine bodyPost_ret (v:=.agg #[.bool (true && decide (0<x - y)),.slice a4 (nd (x - y)) c4]) (by simp [results,Tryz.results47,go_sem,q1,q2,q3,q4,q5,q6,p1,p2,p3,p4,p5,p6]) rfl ?_
  exact⟨_,rfl,HM2.out.store2 _ _ (v0:=.bool false) (v1:=.slice none 0 0) (by rw [p3,q3];simp [go_sem]) (by rw [p3,q3];simp [go_sem]) (noInt_bool _) (noInt_slice _ _ _),(HB2.out.setCell (by simp;omega) _).setCell (by simp;omega) _⟩
set_option maxHeartbeats 2000000 in
theorem zadd_tf_lt (u v : Value) (x y : Nat) (w : World) (hu : Dg w u x) (hv : Dg w v y) (hle : x < y) (bx : nd x ≤ 549755813888) (b_y : nd y ≤ 549755813888) :
    Calls Tryz.prog 47 #[.agg #[.bool true,u],.agg #[.bool false,v]] w fun e w'=>∃ r,e = .returned (.agg #[.bool (false && decide (0<y - x)),r])∧Dg w' r (y - x)∧Below w.heap.size w w':=by
  have HU:=Lib.hid hu
  have HV:=Lib.hid hv
  obtain⟨a1,b1,o1,c1,rfl,i1⟩:=hu
  obtain⟨a2,b2,o2,c2,rfl,i2⟩:=hv
  have HB:Hid (Below w.heap.size w (((w.alloc (Obj.cells #[Value.bool true,Value.slice a1 (nd x) c1] 38)).alloc (Obj.cells #[Value.bool false,Value.slice a2 (nd y) c2] 38)).alloc (Obj.cells #[.bool false,.slice none 0 0] 38))):=boxes3 w _ _ _
  have HLE:=Lib.hid hle
  have HCM:=Lib.hid (fun W=>sizes_any (.slice a1 (nd x) c1) (.slice a2 (nd y) c2) x y W)
  have hcm:cmpN x y<0:=by unfold cmpN;rw [if_pos (by omega)];omega
  clear hle i1 i2
  go_enter Tryz.func47,Tryz.ntmps47
  go_wp2_with (go_at_call 80;refine (HCM.out _ (HU.out.mono HB.out (Nat.le_refl _)) (HV.out.mono HB.out (Nat.le_refl _)) (by omega) (by omega)).mono ?_;rintro e w' ⟨rfl,hd⟩;obtain⟨nq,rfl⟩:=hd)
  go_region_held3 (fun w'=>w'.cell? ⟨w.heap.size+1,0,none⟩=some (.bool false)∧w'.cell? ⟨w.heap.size+1,1,none⟩=some (.slice a2 (nd y) c2)∧w'.cell? ⟨w.heap.size,1,none⟩=some (.slice a1 (nd x) c1)) (go_keep)
    (first
      | (go_at_call 81;refine (bless_any _ _ y x _ (((HV.out.mono HB.out (Nat.le_refl _)).drawn (Drawn.of _ nq)).drew) (((HU.out.mono HB.out (Nat.le_refl _)).drawn (Drawn.of _ nq)).drew) (Nat.le_of_lt HLE.out) (by omega)).mono ?_;rintro e w1 ⟨r,f1,rfl,⟨a3,b3,o3,c3,rfl,i3⟩,hf1,hval,hb⟩;have HF1:=Lib.hid hf1;have HVL:=Lib.hid hval;have HI3:Hid (Raw w1 (.slice a3 (nd y) c3) (nd y) f1):=Lib.hid ⟨a3,b3,o3,c3,rfl,i3⟩;have hn2:nd y≤1099511627776:=(by omega);obtain⟨q1,q2,q3,q4,q5,q6,hz1,HB1⟩:=kept3 (w:=w) hb (by simp) ((below_drawN HB.out nq).drew);clear hf1 hval i3)
      | (go_at_call 78;refine (lean_val _ _ (nd y) f1 (y - x) _ HI3.out HF1.out HVL.out hn2).mono ?_;rintro e w2 ⟨a4,c4,rfl,hm2,hb2⟩;have HM2:=Lib.hid hm2;obtain⟨p1,p2,p3,p4,p5,p6,hz2,HB2⟩:=kept3 (w:=w) hb2 hz1 HB1.out;clear hm2))
  go_wp2
  refine bodyPost_ret (v:=.agg #[.bool (false && decide (0<y - x)),.slice a4 (nd (y - x)) c4]) (by simp [results,Tryz.results47,go_sem,q1,q2,q3,q4,q5,q6,p1,p2,p3,p4,p5,p6]) rfl ?_
  exact⟨_,rfl,HM2.out.store2 _ _ (v0:=.bool false) (v1:=.slice none 0 0) (by rw [p3,q3];simp [go_sem]) (by rw [p3,q3];simp [go_sem]) (noInt_bool _) (noInt_slice _ _ _),(HB2.out.setCell (by simp;omega) _).setCell (by simp;omega) _⟩
set_option maxHeartbeats 2000000 in
theorem zadd_ft_ge (u v : Value) (x y : Nat) (w : World) (hu : Dg w u x) (hv : Dg w v y) (hle : y ≤ x) (bx : nd x ≤ 549755813888) (b_y : nd y ≤ 549755813888) :
    Calls Tryz.prog 47 #[.agg #[.bool false,u],.agg #[.bool true,v]] w fun e w'=>∃ r,e = .returned (.agg #[.bool (false && decide (0<x - y)),r])∧Dg w' r (x - y)∧Below w.heap.size w w':=by
  have HU:=Lib.hid hu
  have HV:=Lib.hid hv
  obtain⟨a1,b1,o1,c1,rfl,i1⟩:=hu
  obtain⟨a2,b2,o2,c2,rfl,i2⟩:=hv
  have HB:Hid (Below w.heap.size w (((w.alloc (Obj.cells #[Value.bool false,Value.slice a1 (nd x) c1] 38)).alloc (Obj.cells #[Value.bool true,Value.slice a2 (nd y) c2] 38)).alloc (Obj.cells #[.bool false,.slice none 0 0] 38))):=boxes3 w _ _ _
  have HLE:=Lib.hid hle
  have HCM:=Lib.hid (fun W=>sizes_any (.slice a1 (nd x) c1) (.slice a2 (nd y) c2) x y W)
  have hcm:0≤cmpN x y:=by unfold cmpN;rw [if_neg (by omega)];split <;> omega
  clear hle i1 i2
  go_enter Tryz.func47,Tryz.ntmps47
  go_wp2_with (go_at_call 80;refine (HCM.out _ (HU.out.mono HB.out (Nat.le_refl _)) (HV.out.mono HB.out (Nat.le_refl _)) (by omega) (by omega)).mono ?_;rintro e w' ⟨rfl,hd⟩;obtain⟨nq,rfl⟩:=hd)
  go_region_held3 (fun w'=>w'.cell? ⟨w.heap.size,0,none⟩=some (.bool false)∧w'.cell? ⟨w.heap.size,1,none⟩=some (.slice a1 (nd x) c1)∧w'.cell? ⟨w.heap.size+1,1,none⟩=some (.slice a2 (nd y) c2)) (go_keep)
    (first
      | (go_at_call 81;refine (bless_any _ _ x y _ (((HU.out.mono HB.out (Nat.le_refl _)).drawn (Drawn.of _ nq)).drew) (((HV.out.mono HB.out (Nat.le_refl _)).drawn (Drawn.of _ nq)).drew) HLE.out (by omega)).mono ?_;rintro e w1 ⟨r,f1,rfl,⟨a3,b3,o3,c3,rfl,i3⟩,hf1,hval,hb⟩;have HF1:=Lib.hid hf1;have HVL:=Lib.hid hval;have HI3:Hid (Raw w1 (.slice a3 (nd x) c3) (nd x) f1):=Lib.hid ⟨a3,b3,o3,c3,rfl,i3⟩;have hn2:nd x≤1099511627776:=(by omega);obtain⟨q1,q2,q3,q4,q5,q6,hz1,HB1⟩:=kept3 (w:=w) hb (by simp) ((below_drawN HB.out nq).drew);clear hf1 hval i3)
      | (go_at_call 78;refine (lean_val _ _ (nd x) f1 (x - y) _ HI3.out HF1.out HVL.out hn2).mono ?_;rintro e w2 ⟨a4,c4,rfl,hm2,hb2⟩;have HM2:=Lib.hid hm2;obtain⟨p1,p2,p3,p4,p5,p6,hz2,HB2⟩:=kept3 (w:=w) hb2 hz1 HB1.out;clear hm2))
  go_wp2
  refine bodyPost_ret (v:=.agg #[.bool (false && decide (0<x - y)),.slice a4 (nd (x - y)) c4]) (by simp [results,Tryz.results47,go_sem,q1,q2,q3,q4,q5,q6,p1,p2,p3,p4,p5,p6]) rfl ?_
  exact⟨_,rfl,HM2.out.store2 _ _ (v0:=.bool false) (v1:=.slice none 0 0) (by rw [p3,q3];simp [go_sem]) (by rw [p3,q3];simp [go_sem]) (noInt_bool _) (noInt_slice _ _ _),(HB2.out.setCell (by simp;omega) _).setCell (by simp;omega) _⟩
set_option maxHeartbeats 2000000 in
theorem zadd_ft_lt (u v : Value) (x y : Nat) (w : World) (hu : Dg w u x) (hv : Dg w v y) (hle : x < y) (bx : nd x ≤ 549755813888) (b_y : nd y ≤ 549755813888) :
    Calls Tryz.prog 47 #[.agg #[.bool false,u],.agg #[.bool true,v]] w fun e w'=>∃ r,e = .returned (.agg #[.bool (true && decide (0<y - x)),r])∧Dg w' r (y - x)∧Below w.heap.size w w':=by
  have HU:=Lib.hid hu
  have HV:=Lib.hid hv
  obtain⟨a1,b1,o1,c1,rfl,i1⟩:=hu
  obtain⟨a2,b2,o2,c2,rfl,i2⟩:=hv
  have HB:Hid (Below w.heap.size w (((w.alloc (Obj.cells #[Value.bool false,Value.slice a1 (nd x) c1] 38)).alloc (Obj.cells #[Value.bool true,Value.slice a2 (nd y) c2] 38)).alloc (Obj.cells #[.bool false,.slice none 0 0] 38))):=boxes3 w _ _ _
  have HLE:=Lib.hid hle
  have HCM:=Lib.hid (fun W=>sizes_any (.slice a1 (nd x) c1) (.slice a2 (nd y) c2) x y W)
  have hcm:cmpN x y<0:=by unfold cmpN;rw [if_pos (by omega)];omega
  clear hle i1 i2
  go_enter Tryz.func47,Tryz.ntmps47
  go_wp2_with (go_at_call 80;refine (HCM.out _ (HU.out.mono HB.out (Nat.le_refl _)) (HV.out.mono HB.out (Nat.le_refl _)) (by omega) (by omega)).mono ?_;rintro e w' ⟨rfl,hd⟩;obtain⟨nq,rfl⟩:=hd)
  go_region_held3 (fun w'=>w'.cell? ⟨w.heap.size+1,0,none⟩=some (.bool true)∧w'.cell? ⟨w.heap.size+1,1,none⟩=some (.slice a2 (nd y) c2)∧w'.cell? ⟨w.heap.size,1,none⟩=some (.slice a1 (nd x) c1)) (go_keep)
    (first
      | (go_at_call 81;refine (bless_any _ _ y x _ (((HV.out.mono HB.out (Nat.le_refl _)).drawn (Drawn.of _ nq)).drew) (((HU.out.mono HB.out (Nat.le_refl _)).drawn (Drawn.of _ nq)).drew) (Nat.le_of_lt HLE.out) (by omega)).mono ?_;rintro e w1 ⟨r,f1,rfl,⟨a3,b3,o3,c3,rfl,i3⟩,hf1,hval,hb⟩;have HF1:=Lib.hid hf1;have HVL:=Lib.hid hval;have HI3:Hid (Raw w1 (.slice a3 (nd y) c3) (nd y) f1):=Lib.hid ⟨a3,b3,o3,c3,rfl,i3⟩;have hn2:nd y≤1099511627776:=(by omega);obtain⟨q1,q2,q3,q4,q5,q6,hz1,HB1⟩:=kept3 (w:=w) hb (by simp) ((below_drawN HB.out nq).drew);clear hf1 hval i3)
      | (go_at_call 78;refine (lean_val _ _ (nd y) f1 (y - x) _ HI3.out HF1.out HVL.out hn2).mono ?_;rintro e w2 ⟨a4,c4,rfl,hm2,hb2⟩;have HM2:=Lib.hid hm2;obtain⟨p1,p2,p3,p4,p5,p6,hz2,HB2⟩:=kept3 (w:=w) hb2 hz1 HB1.out;clear hm2))
  go_wp2
  refine bodyPost_ret (v:=.agg #[.bool (true && decide (0<y - x)),.slice a4 (nd (y - x)) c4]) (by simp [results,Tryz.results47,go_sem,q1,q2,q3,q4,q5,q6,p1,p2,p3,p4,p5,p6]) rfl ?_
  exact⟨_,rfl,HM2.out.store2 _ _ (v0:=.bool false) (v1:=.slice none 0 0) (by rw [p3,q3];simp [go_sem]) (by rw [p3,q3];simp [go_sem]) (noInt_bool _) (noInt_slice _ _ _),(HB2.out.setCell (by simp;omega) _).setCell (by simp;omega) _⟩
end Go.Proofs.YtgmopcncbpdniaaGreat
namespace Go.Proofs.YtgmopcncbpdniaaGreat
open Go.RowKit
attribute [local go_sem ↓] Go.wp_at_zero Go.wp_at_succ
theorem ZIs.shape {w:World} {v:Value} {z:Int} {m:Nat} (h:ZIs w v z m):∃ s a n c,v = .agg #[.bool s,.slice a n c]∧Hid (ZIs w (.agg #[.bool s,.slice a n c]) z m):=by
  have h0:=h
  obtain⟨u,rfl,⟨a,b,o,c,rfl,hs⟩,h2⟩:=h
  exact⟨_,a,_,c,rfl,h0⟩
theorem ZIs.store2 {w : World} {v : Value} {z : Int} {m b : Nat} (h : ZIs w v z m) (u0 u1 : Value) {v0 v1 : Value} (h0 : w.cell? ⟨b, 0, none⟩ = some v0) (h1 : w.cell? ⟨b, 1, none⟩ = some v1) (n0 : NoInt v0) (n1 : NoInt v1) :
    ZIs ((w.setCell ⟨b,0,none⟩ u0).setCell ⟨b,1,none⟩ u1) v z m:=by
  obtain⟨u,rfl,g1,g2⟩:=h
  exact⟨u,rfl,g1.store2 u0 u1 h0 h1 n0 n1,g2⟩
theorem badd_any (a b : Value) (p q : Int) (k : Nat) (w : World) (ha : ZIs w a p k) (hb : ZIs w b q k) (hk : k ≤ 549755813888) :
    Calls Tryz.prog 47 #[a,b] w fun e w'=>∃ r,e = .returned r∧ZIs w' r (p+q) (k+1)∧Below w.heap.size w w':=by
  obtain⟨u,rfl,hu,bu⟩:=ha
  obtain⟨v,rfl,hv,bv⟩:=hb
  by_cases hp:p<0 <;> by_cases hq:q<0
  · have e1:decide (p<0)=true:=by simpa using hp
    have e2:decide (q<0)=true:=by simpa using hq
    rw [e1,e2]
    refine (zadd_same u v true _ _ w hu hv (by omega) (by omega)).mono ?_
    rintro e w' ⟨r,rfl,hr,hb⟩
    exact⟨_,rfl,ZIs.mk (by simp [sgn];omega) hr (nd_add _ _ _ bu bv),hb⟩
  · have e1:decide (p<0)=true:=by simpa using hp
    have e2:decide (q<0)=false:=by simpa using hq
    rw [e1,e2]
    by_cases hle:q.natAbs≤p.natAbs
    · refine (zadd_tf_ge u v _ _ w hu hv hle (by omega) (by omega)).mono ?_
      rintro e w' ⟨r,rfl,hr,hb⟩
      exact⟨_,rfl,ZIs.mk (by simp [sgn];omega) hr (Nat.le_trans (nd_mono (Nat.sub_le _ _)) (by omega)),hb⟩
    · refine (zadd_tf_lt u v _ _ w hu hv (by omega) (by omega) (by omega)).mono ?_
      rintro e w' ⟨r,rfl,hr,hb⟩
      exact⟨_,rfl,ZIs.mk (by simp [sgn];omega) hr (Nat.le_trans (nd_mono (Nat.sub_le _ _)) (by omega)),hb⟩
  · have e1:decide (p<0)=false:=by simpa using hp
    have e2:decide (q<0)=true:=by simpa using hq
    rw [e1,e2]
    by_cases hle:q.natAbs≤p.natAbs
    · refine (zadd_ft_ge u v _ _ w hu hv hle (by omega) (by omega)).mono ?_
      rintro e w' ⟨r,rfl,hr,hb⟩
      exact⟨_,rfl,ZIs.mk (by simp [sgn];omega) hr (Nat.le_trans (nd_mono (Nat.sub_le _ _)) (by omega)),hb⟩
    · refine (zadd_ft_lt u v _ _ w hu hv (by omega) (by omega) (by omega)).mono ?_
      rintro e w' ⟨r,rfl,hr,hb⟩
      exact⟨_,rfl,ZIs.mk (by simp [sgn];omega) hr (Nat.le_trans (nd_mono (Nat.sub_le _ _)) (by omega)),hb⟩
  · have e1:decide (p<0)=false:=by simpa using hp
    have e2:decide (q<0)=false:=by simpa using hq
    rw [e1,e2]
    refine (zadd_same u v false _ _ w hu hv (by omega) (by omega)).mono ?_
    rintro e w' ⟨r,rfl,hr,hb⟩
    exact⟨_,rfl,ZIs.mk (by simp [sgn];omega) hr (nd_add _ _ _ bu bv),hb⟩
theorem zneg_any (a : Value) (p : Int) (k : Nat) (w : World) (ha : ZIs w a p k) :
    Calls Tryz.prog 93 #[a] w fun e w'=>∃ r,e = .returned r∧ZIs w' r (-p) k∧Below w.heap.size w w':=by
  obtain⟨u,rfl,hu,bu⟩:=ha
  refine (bneg_any u _ _ w hu).mono ?_
  rintro e w' ⟨rfl,hm,hb⟩
  refine⟨_,rfl,ZIs.mk ?_ hm bu,hb⟩
  by_cases h:p<0 <;> simp [sgn,h] <;> omega
theorem zabs_any (a : Value) (p : Int) (k : Nat) (w : World) (ha : ZIs w a p k) :
    Calls Tryz.prog 120 #[a] w fun e w'=>∃ r,e = .returned r∧ZIs w' r (p.natAbs:Int) k∧Below w.heap.size w w':=by
  obtain⟨u,rfl,hu,bu⟩:=ha
  refine (babs_any u _ _ w hu).mono ?_
  rintro e w' ⟨rfl,hm,hb⟩
  have e1:decide ((p.natAbs:Int)<0)=false:=by simp
  exact⟨_,rfl,⟨u,by rw [e1],hm,bu⟩,hb⟩
set_option maxHeartbeats 2000000 in
theorem bsub_any (x y : Value) (p q : Int) (k : Nat) (w : World) (ha : ZIs w x p k) (hb : ZIs w y q k) (hk : k ≤ 549755813888) :
    Calls Tryz.prog 58 #[x,y] w fun e w'=>∃ r,e = .returned r∧ZIs w' r (p - q) (k+1)∧Below w.heap.size w w':=by
  obtain⟨s1,a1,n1,c1,rfl,HA⟩:=ha.shape
  obtain⟨s2,a2,n2,c2,rfl,HQ⟩:=hb.shape
  clear ha hb
  have HB:Hid (Below w.heap.size w (((w.alloc (Obj.cells #[Value.bool s1,Value.slice a1 n1 c1] 38)).alloc (Obj.cells #[Value.bool s2,Value.slice a2 n2 c2] 38)).alloc (Obj.cells #[.bool false,.slice none 0 0] 38))):=boxes3 w _ _ _
  go_enter Tryz.func58,Tryz.ntmps58
  go_wp2
  go_region_held3 (fun w'=>w'.cell? ⟨w.heap.size,0,none⟩=some (.bool s1)∧w'.cell? ⟨w.heap.size,1,none⟩=some (.slice a1 n1 c1)∧w'.cell? ⟨w.heap.size+1,0,none⟩=some (.bool s2)∧w'.cell? ⟨w.heap.size+1,1,none⟩=some (.slice a2 n2 c2)) (go_keep)
    (first
      | (go_at_call 93;refine (zneg_any _ q k _ ((HQ.out.mono HB.out (Nat.le_refl _)).drawn (Drawn.of _ 1))).mono ?_;rintro e w1 ⟨r,rfl,hr,hb1⟩;obtain⟨q1,q2,q3,q4,q5,q6,hz1,HB1⟩:=kept3 (w:=w) hb1 (by simp) HB.out.drew)
      | (go_at_call 47;refine (badd_any _ _ p (-q) k _ (HA.out.mono HB1.out (Nat.le_refl _)) hr hk).mono ?_;rintro e w2 ⟨r2,rfl,hr2,hb2⟩;obtain⟨s3,a3,n3,c3,rfl,H3⟩:=hr2.shape;clear hr2;obtain⟨p1,p2,p3,p4,p5,p6,hz2,HB2⟩:=kept3 (w:=w) hb2 hz1 HB1.out))
  go_wp2
  refine bodyPost_ret (v:=.agg #[.bool s3,.slice a3 n3 c3]) (by simp [results,Tryz.results58,go_sem,q1,q2,q3,q4,q5,q6,p1,p2,p3,p4,p5,p6]) rfl ?_
  refine⟨_,rfl,?_,(HB2.out.setCell (by simp;omega) _).setCell (by simp;omega) _⟩
  exact H3.out.store2 _ _ (v0:=.bool false) (v1:=.slice none 0 0) (by rw [p3,q3];simp [go_sem]) (by rw [p3,q3];simp [go_sem]) (noInt_bool _) (noInt_slice _ _ _)
end Go.Proofs.YtgmopcncbpdniaaGreat
namespace Go.Proofs.YtgmopcncbpdniaaGreat
open Go.RowKit
attribute [local go_sem ↓] Go.wp_at_zero Go.wp_at_succ
structure MulS (w0 w:World) (C N:Nat) (s t:Bool) (sx sy:Value) (f:Nat→Nat):Prop where
  oa:Own2 w w0.heap.size (.bool s) sx
  ob:Own2 w (w0.heap.size+1) (.bool t) sy
  orr:Own2 w (w0.heap.size+1+1) (.bool false) (.slice none 0 0)
  row:w.rowIs C 3 N (ic (dI f))
  kw:Below w0.heap.size w0 w
  hC:w0.heap.size+3≤C
theorem MulS.set {w0 w:World} {C N:Nat} {s t:Bool} {sx sy:Value} {f:Nat→Nat} (h:MulS w0 w C N s t sx sy f) (j d:Nat):MulS w0 (w.setCell ⟨C,j,none⟩ (.int .i64 ((d:Nat):Int))) C N s t sx sy (upd f j d):=
  ⟨h.oa.setCell _ _ _ (by have:=h.hC;omega),h.ob.setCell _ _ _ (by have:=h.hC;omega),h.orr.setCell _ _ _ (by have:=h.hC;omega),
   (h.row.set j _).congr (fun i hi=>by
    by_cases e:i=j
    · subst e;simp [ic,dI,upd]
    · simp [ic,dI,upd,e]),h.kw.setCell (by have:=h.hC;dsimp only;omega) _,h.hC⟩
theorem MulS.drawn {w0 w w':World} {C N:Nat} {s t:Bool} {sx sy:Value} {f:Nat→Nat} (h:MulS w0 w C N s t sx sy f) (hd:Drawn w w'):MulS w0 w' C N s t sx sy f:=
  ⟨h.oa.drawn hd,h.ob.drawn hd,h.orr.drawn hd,rowIs_below h.row (hd.below _) h.row.lt,h.kw.trans (hd.below _),h.hC⟩
theorem mulD_in (v v0 c dx dy f Y P Q : Nat) (h : v + c * (P * Q) = v0 + dx * Y * P) :
    v+(f+c+dx*dy) % 10000*(P*Q)+(f+c+dx*dy) / 10000*(P*Q*10000)=(v0+f*(P*Q))+dx*(Y+dy*Q)*P:=by
  have e:=Nat.div_add_mod (f+c+dx*dy) 10000
  generalize (f+c+dx*dy) / 10000=q at *
  generalize (f+c+dx*dy) % 10000=r at *
  have e1:r*(P*Q)+q*(P*Q*10000)=(f+c+dx*dy)*(P*Q):=by rw [←e];grind
  have e2:(f+c+dx*dy)*(P*Q)=dx*dy*(P*Q)+f*(P*Q)+c*(P*Q):=by grind
  have e3:dx*(Y+dy*Q)*P=dx*Y*P+dx*dy*(P*Q):=by grind
  omega
theorem valD_upd (f:Nat→Nat) (k d n:Nat) (h:n≤k):valD (upd f k d) n=valD f n:=
  valD_congr (fun i hi=>by unfold upd;rw [if_neg (by omega)])
structure MulK (x y i k c:Nat) (f0 f:Nat→Nat):Prop where
  lt:∀ j,f j<10000
  same:∀ j,i+k≤j→f j=f0 j
  val:valD f (i+k)+c*(10000 ^ i*10000 ^ k)=valD f0 (i+k)+dg x i*valD (dg y) k*10000 ^ i
theorem MulK.start {x y i:Nat} {f0:Nat→Nat} (h:∀ j,f0 j<10000):MulK x y i 0 0 f0 f0:=⟨h,fun _ _=>rfl,by simp [valD]⟩
theorem MulK.step {x y i k c:Nat} {f0 f:Nat→Nat} (h:MulK x y i k c f0 f):MulK x y i (k+1) ((f (i+k)+c+dg x i*dg y k) / 10000) f0 (upd f (i+k) ((f (i+k)+c+dg x i*dg y k) % 10000)):=by
  refine⟨fun j=>?_,fun j hj=>?_,?_⟩
  · unfold upd;split
    · exact Nat.mod_lt _ (by omega)
    · exact h.lt j
  · unfold upd;rw [if_neg (by omega)];exact h.same j (by omega)
  · rw [←Nat.add_assoc]
    simp only [valD,valD_upd f (i+k) _ (i+k) (Nat.le_refl _),upd_self]
    have e1:f (i+k)=f0 (i+k):=h.same _ (Nat.le_refl _)
    have:=mulD_in _ _ _ (dg x i) (dg y k) (f (i+k)) _ _ _ h.val
    rw [←e1,Nat.pow_add,Nat.pow_succ,←Nat.mul_assoc (10000 ^ i)]
    exact this
structure MulI (x y i:Nat) (f:Nat→Nat):Prop where
  lt:∀ j,f j<10000
  zero:∀ j,i+nd y≤j→f j=0
  val:valD f (i+nd y)=valD (dg x) i*y
theorem MulI.done {x y i k:Nat} {f0 f:Nat→Nat} (h0:MulI x y i f0) (h:MulK x y i k 0 f0 f) (hk:nd y≤k) (hk2:k≤nd y+1):MulI x y (i+1) f:=by
  have hy:∀ m,nd y≤m→valD (dg y) m=y:=fun m hm=>valD_dg_le y m hm
  have hf0:valD f0 (i+nd y+1)=valD f0 (i+nd y):=by simp only [valD];rw [h0.zero (i+nd y) (by omega)];omega
  have key:valD f (i+nd y+1)=valD f0 (i+nd y)+dg x i*y*10000 ^ i:=by
    have hv:=h.val
    rw [Nat.zero_mul,Nat.add_zero,hy k hk] at hv
    have:k=nd y∨k=nd y+1:=by omega
    rcases this with e | e
    · subst e
      simp only [valD]
      rw [h.same (i+nd y) (Nat.le_refl _),h0.zero (i+nd y) (Nat.le_refl _),hv];omega
    · subst e
      rw [←Nat.add_assoc] at hv
      rw [hv,hf0]
  refine⟨h.lt,fun j hj=>?_,?_⟩
  · rw [h.same j (by omega)];exact h0.zero j (by omega)
  · rw [show i+1+nd y=i+nd y+1 from by omega,key,h0.val]
    simp only [valD]
    rw [Nat.add_mul]
    have:dg x i*10000 ^ i*y=dg x i*y*10000 ^ i:=by ac_rfl
    omega
end Go.Proofs.YtgmopcncbpdniaaGreat
namespace Go.Proofs.YtgmopcncbpdniaaGreat
open Go.RowKit
attribute [local go_sem ↓] Go.wp_at_zero Go.wp_at_succ
set_option maxHeartbeats 8000000 in
set_option maxRecDepth 100000 in
theorem bmul_dg (u v : Value) (s t : Bool) (x y : Nat) (w : World) (hu : Dg w u x) (hv : Dg w v y) (bxy : nd x + nd y ≤ 549755813888) :
    Calls Tryz.prog 45 #[.agg #[.bool s,u],.agg #[.bool t,v]] w fun e w'=>∃ r,e = .returned (.agg #[.bool ((s != t) && decide (0<x*y)),r])∧Dg w' r (x*y)∧Below w.heap.size w w':=by
  obtain⟨a1,b1,o1,c1',rfl,s1⟩:=hu
  obtain⟨a2,b2,o2,c2',rfl,s2⟩:=hv
  have S1:=Lib.hid s1
  have S2:=Lib.hid s2
  obtain⟨N,hN⟩:∃ N,N=nd x+nd y+1:=⟨_,rfl⟩
  have hmk:=run_make_row' (P:=Tryz.prog) 24 3 (.int .i64 0) 8 Tryz.underlying24 infoI rfl .i64 .i64 N (by omega) (by omega)
  have hw1:IntKind.i64.wrap (((nd x:Nat):Int)+((nd y:Nat):Int)+1)=(N:Int):=by rw [IntKind.wrap_i64];omega
  have hN1:nd x+nd y<N:=by omega
  have hN2:N≤549755813889:=by omega
  clear s1 s2
  have MS0:Hid (MulS w ((((w.alloc (.cells #[.bool s,.slice a1 (nd x) c1'] 38)).alloc (.cells #[.bool t,.slice a2 (nd y) c2'] 38)).alloc (.cells #[.bool false,.slice none 0 0] 38)).alloc (.cells (madeCells #[.int .i64 0] N) 3)) (w.heap.size+1+1+1) N s t (.slice a1 (nd x) c1') (.slice a2 (nd y) c2') (fun _=>0)):=Lib.hid (by
    have hr:=World.rowIs_made (((w.alloc (.cells #[.bool s,.slice a1 (nd x) c1'] 38)).alloc (.cells #[.bool t,.slice a2 (nd y) c2'] 38)).alloc (.cells #[.bool false,.slice none 0 0] 38)) (.int .i64 0) N 3
    simp only [World.size_alloc] at hr
    exact⟨(((own2_new w _ rfl _ _ _).alloc _).alloc _).alloc _,((own2_new _ _ (by simp) _ _ _).alloc _).alloc _,(own2_new _ _ (by simp) _ _ _).alloc _,hr,((boxes3 w _ _ _).alloc (by simp;omega) _),by omega⟩)
  have HN:=Lib.hid hN
  clear hN
  go_enter Tryz.func45,Tryz.ntmps45
  go_wp2_with fail
  generalize World.alloc _ _=w4 at MS0 ⊢
  clear hmk hw1
  go_loopw [6,7,8,9] (fun v6 _ _ _ wr=>∃ i:Nat,i≤nd x∧v6 = .int .i64 (i:Nat)∧∃ f,Hid (MulI x y i f)∧Hid (MulS w wr (w.heap.size+1+1+1) N s t (.slice a1 (nd x) c1') (.slice a2 (nd y) c2') f)) (fun v6 _ _ _ _=>nd x - (intOf v6).toNat)
  case atStart=>exact⟨0,by omega,rfl,fun _=>0,Lib.hid ⟨fun _=>by omega,fun _ _=>rfl,by
    have:∀ n,valD (fun _=>0) n=0:=fun n=>by induction n with | zero=>rfl | succ n ih=>simp [valD,ih]
    rw [this];simp [valD]⟩,MS0⟩
  case round=>
    clear MS0
    obtain⟨i,hi,rfl,f0,MI,MS⟩:=hrel
    have pa0:=MS.out.oa.c0
    have pa1:=MS.out.oa.c1
    have pb0:=MS.out.ob.c0
    have pb1:=MS.out.ob.c1
    by_cases h:i<nd x
    · have d1:decide ((i:Int)<((nd x:Nat):Int))=true:=by simpa using h
      have d1n:decide (i<nd x)=true:=by simpa using h
      go_wp2_with fail
      clear pa0 pa1 pb0 pb1
      go_loopw [7,8,9] (fun v7 v8 _ wr=>∃ k c:Nat,k≤nd y+1∧v8 = .int .i64 (k:Nat)∧v7 = .int .i64 (c:Nat)∧c<10000∧∃ f,Hid (MulK x y i k c f0 f)∧Hid (k≤nd y∨c=0)∧Hid (MulS w wr (w.heap.size+1+1+1) N s t (.slice a1 (nd x) c1') (.slice a2 (nd y) c2') f)) (fun _ v8 _ _=>nd y+1 - (intOf v8).toNat)
      case atStart=>exact⟨0,0,by omega,rfl,rfl,by omega,f0,Lib.hid (MulK.start MI.out.lt),Lib.hid (.inl (by omega)),MS⟩
      case round=>
        clear MS
        obtain⟨k,c,hk,rfl,rfl,hc,f,MK,HC,MS⟩:=hrel
        have pa1:=MS.out.oa.c1
        have pb1:=MS.out.ob.c1
        go_upto_region 7 with (fail)
        go_cut [34] (fun v34 wx=>v34 = .bool (decide (k<nd y∨0<c))∧Hid (MulS w wx (w.heap.size+1+1+1) N s t (.slice a1 (nd x) c1') (.slice a2 (nd y) c2') f))
        case first=>
          by_cases q1:k<nd y
          · have d2:decide ((k:Int)<((nd y:Nat):Int))=true:=by simpa using q1
            have d2n:decide (k<nd y)=true:=by simpa using q1
            have HE:Hid (decide (k<nd y∨0<c)=true):=Lib.hid (by simp [q1])
            go_wp2
            go_meet
            case rel=>exact⟨by rw [HE.out],MS⟩
          · have d2:decide ((k:Int)<((nd y:Nat):Int))=false:=by simpa using q1
            have d2n:decide (k<nd y)=false:=by simpa using q1
            by_cases q2:0<c
            · have d3:decide ((0:Int)<(c:Int))=true:=by simpa using q2
              have HE:Hid (decide (k<nd y∨0<c)=true):=Lib.hid (by simp [q2])
              go_wp2
              go_meet
              case rel=>exact⟨by rw [HE.out],MS⟩
            · have d3:decide ((0:Int)<(c:Int))=false:=by simpa using q2
              have HE:Hid (decide (k<nd y∨0<c)=false):=Lib.hid (by simp [q1,q2])
              go_wp2
              go_meet
              case rel=>exact⟨by rw [HE.out],MS⟩
        case rest=>
          clear MS pa1 pb1
          obtain⟨rfl,MS⟩:=hcut
          by_cases cc:k<nd y∨0<c
          · have e0:decide (k<nd y∨0<c)=true:=by simpa using cc
            rw [e0]
            have hky:k≤nd y:=by have:=HC.out;omega
            have hik:i+k<N:=by omega
            have hdx:=dg_lt x i
            have hdy:=dg_lt y k
            have hfl:=MK.out.lt (i+k)
            have pa1:=MS.out.oa.c1
            have pb1:=MS.out.ob.c1
            have bx:=fun W=>ixI (rowIs_sl MS.out.row) (i+k) N hik W
            have bc:=MS.out.row.cell hik
            simp only [Nat.zero_add,ic,dI,Int.natCast_add] at bx bc
            have hw2:IntKind.i64.wrap ((i:Int)+(k:Int))=(i:Int)+(k:Int):=by rw [IntKind.wrap_i64];omega
            have g0:(0:Int)≤(i:Int)+(k:Int):=by omega
            have g1:(i:Int)+(k:Int)<(N:Int):=by omega
            have g2:((i:Int)+(k:Int)).toNat=i+k:=by omega
            clear e0 cc
            go_upto_if 49 with (fail)
            clear bx bc
            have hpp:dg x i*dg y k≤9999*9999:=Nat.mul_le_mul (by omega) (by omega)
            obtain⟨pr,hpr⟩:∃ pr,pr=dg x i*dg y k:=⟨_,rfl⟩
            have hpi:((dg x i:Nat):Int)*((dg y k:Nat):Int)=(pr:Int):=by rw [hpr,Int.natCast_mul]
            have hwp:IntKind.i64.wrap (((dg x i:Nat):Int)*((dg y k:Nat):Int))=(pr:Int):=by rw [hpi,IntKind.wrap_i64];omega
            have HPR:=Lib.hid hpr
            rw [←hpr] at hpp
            obtain⟨sm,hsm⟩:∃ sm,sm=f (i+k)+c:=⟨_,rfl⟩
            have hsi:((f (i+k):Nat):Int)+(c:Int)=(sm:Int):=by omega
            rw [hsi]
            have hsl:sm≤20000:=by omega
            have HSM:=Lib.hid hsm
            clear hpr hsm hsi
            go_cut [9] (fun v9 wx=>v9 = .int .i64 ((sm+pr:Nat):Int)∧Hid (MulS w wx (w.heap.size+1+1+1) N s t (.slice a1 (nd x) c1') (.slice a2 (nd y) c2') f))
            case first=>
              by_cases q1:k<nd y
              · have d2:decide ((k:Int)<((nd y:Nat):Int))=true:=by simpa using q1
                have d2n:decide (k<nd y)=true:=by simpa using q1
                have ix1:=fun W=>ixI S1.out i c1' h W
                have cl1:=(S1.out.mono MS.out.kw (Nat.le_refl _)).cell i h
                have ix2:=fun W=>ixI S2.out k c2' q1 W
                have cl2:=(S2.out.mono MS.out.kw (Nat.le_refl _)).cell k q1
                simp only [ic,dI] at cl1 cl2
                have hw3:IntKind.i64.wrap ((sm:Int)+(pr:Int))=((sm+pr:Nat):Int):=by rw [IntKind.wrap_i64];omega
                go_wp2
                go_quiet (fail)
                go_wp2
                go_meet
                case rel=>exact⟨by first | rfl | simp,Lib.hid (MS.out.drawn (Drawn.of _ _))⟩
              · have d2:decide ((k:Int)<((nd y:Nat):Int))=false:=by simpa using q1
                have d2n:decide (k<nd y)=false:=by simpa using q1
                have HZ:Hid (pr=0):=Lib.hid (by rw [HPR.out,dg_far y k (by omega)];simp)
                go_wp2
                go_meet
                case rel=>exact⟨by rw [HZ.out];simp,MS⟩
            case rest=>
              clear MS pa1 pb1
              obtain⟨rfl,MS⟩:=hcut
              obtain⟨z,hz⟩:∃ z,z=sm+pr:=⟨_,rfl⟩
              rw [←hz]
              have hzl:z≤99999999:=by rw [hz];have:=HSM.out;omega
              have hst:=MK.out.step
              rw [show f (i+k)+c+dg x i*dg y k=z by rw [hz,HSM.out,HPR.out]] at hst
              have HC2:Hid (k+1≤nd y∨z / 10000=0):=Lib.hid (by
                by_cases e:k=nd y
                · right
                  have z1:=MI.out.zero (i+k) (by omega)
                  have z2:=MK.out.same (i+k) (Nat.le_refl _)
                  have z3:=dg_far y k (by omega)
                  rw [hz,HSM.out,HPR.out,z2,z1,z3];simp;omega
                · left;omega)
              have hq:((z:Nat):Int) / 10000=((z / 10000:Nat):Int):=rfl
              have hm:((z:Nat):Int) % 10000=((z % 10000:Nat):Int):=rfl
              obtain⟨d,hd⟩:∃ d,d=z % 10000:=⟨_,rfl⟩
              obtain⟨cz,hcz⟩:∃ cz,cz=z / 10000:=⟨_,rfl⟩
              have hczl:cz<10000:=by rw [hcz];omega
              rw [←hd] at hm hst
              rw [←hcz] at hq hst HC2
              have HST:=Lib.hid hst
              have bx:=fun W=>ixI (rowIs_sl MS.out.row) (i+k) N hik W
              have bc:=MS.out.row.cell hik
              have bf:=MS.out.row.frozen (i+k)
              simp only [Nat.zero_add,ic,dI,Int.natCast_add] at bx bc
              clear hz hd hcz hst
              go_wp2
              go_roundw
              case rel=>exact⟨k+1,cz,by omega,by go_num,rfl,hczl,_,HST,HC2,Lib.hid (MS.out.set (i+k) d)⟩
              case measure=>simp [intOf];omega
          · have e0:decide (k<nd y∨0<c)=false:=by simpa using cc
            rw [e0]
            have hc0:c=0:=by omega
            subst hc0
            have HD:=Lib.hid (MI.out.done MK.out (by omega) hk)
            clear e0 cc
            go_wp2
            go_roundw
            case rel=>exact⟨i+1,by omega,by go_num,f,HD,MS⟩
            case measure=>simp [intOf];omega
    · obtain rfl:i=nd x:=by omega
      have d1:decide (((nd x:Nat):Int)<((nd x:Nat):Int))=false:=by simp
      have HVAL:Hid (valD f0 N=x*y):=Lib.hid (by
        rw [HN.out]
        simp only [valD]
        rw [MI.out.zero (nd x+nd y) (Nat.le_refl _),MI.out.val,valD_nd];omega)
      have HRAW:Hid (Raw wr (.slice (some ⟨w.heap.size+1+1+1,0,none⟩) N N) N f0):=Lib.hid ⟨_,_,_,_,rfl,rowIs_sl MS.out.row⟩
      have HLT:Hid (∀ j,j<N→f0 j<10000):=Lib.hid (fun j _=>MI.out.lt j)
      have hn40:N≤1099511627776:=by omega
      have OR:=Lib.hid MS.out.orr
      have KW:=Lib.hid MS.out.kw
      go_wp2_with (go_at_call 78;(refine (lean_val _ (s != t) N f0 (x*y) _ HRAW.out HLT.out HVAL.out hn40).mono ?_);rintro e w5 ⟨a5,c5,rfl,hm5,hb5⟩;have HM5:=Lib.hid hm5;have OR:=Lib.hid (OR.out.below hb5 OR.out.lt);have KW:=Lib.hid (KW.out.trans (hb5.mono KW.out.size));have r0:=OR.out.c0;have r1:=OR.out.c1;have rf:=OR.out.f;have rl:=OR.out.lt;clear hm5 hb5)
      refine bodyPost_ret (v:=.agg #[.bool ((s != t) && decide (0<x*y)),.slice a5 (nd (x*y)) c5]) (by simp [results,Tryz.results45,go_sem,r0,r1,rf,rl]) rfl ?_
      exact⟨_,rfl,HM5.out.store2 _ _ (v0:=.bool false) (v1:=.slice none 0 0) r0 r1 (noInt_bool _) (noInt_slice _ _ _),(KW.out.setCell (by dsimp only;omega) _).setCell (by dsimp only;omega) _⟩
end Go.Proofs.YtgmopcncbpdniaaGreat
