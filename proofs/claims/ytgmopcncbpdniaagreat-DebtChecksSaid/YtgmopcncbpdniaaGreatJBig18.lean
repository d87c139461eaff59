import Derived.Test.YtgmopcncbpdniaaGreatJBig16
import Derived.Test.YtgmopcncbpdniaaGreatJOwn
set_option linter.unusedVariables false
set_option linter.unusedSimpArgs false
namespace Go.Proofs.YtgmopcncbpdniaaGreat
open Go.RowKit
attribute [local go_sem ↓] Go.wp_at_zero Go.wp_at_succ
theorem QIs.shape {w:World} {v:Value} {p d:Int} {m:Nat} (h:QIs w v p d m):∃ s a n c t b l e,v = .agg #[.bool s,.slice a n c,.bool t,.slice b l e]∧Hid (ZIs w (.agg #[.bool s,.slice a n c]) p m)∧Hid (ZIs w (.agg #[.bool t,.slice b l e]) d m)∧0<d:=by
 obtain⟨s1,u1,s2,u2,rfl,h1,h2,h3⟩:=h
 obtain⟨s,a,n,c,e1,k1⟩:=h1.shape
 obtain⟨t,b,l,e,e2,k2⟩:=h2.shape
 injection e1 with e1;injection e1 with e1;injection e2 with e2;injection e2 with e2
 simp only [List.cons.injEq,and_true] at e1 e2
 obtain⟨e1,e3⟩:=e1
 obtain⟨e2,e4⟩:=e2
 subst e3 e4
 injection e1 with e1;injection e2 with e2
 subst e1 e2
 exact⟨_,a,n,c,_,b,l,e,rfl,k1,k2,h3⟩
theorem below_set4q {B:Nat} {w0 w:World} (h:Below B w0 w) {b:Nat} (hb:B≤b) (v0 v1 v2 v3:Value):Below B w0 ((((w.setCell ⟨b,0,none⟩ v0).setCell ⟨b,1,none⟩ v1).setCell ⟨b,2,none⟩ v2).setCell ⟨b,3,none⟩ v3):=
 (((h.setCell hb v0).setCell hb v1).setCell hb v2).setCell hb v3
set_option maxHeartbeats 4000000 in
theorem qmul_any (x y:Value) (p d q e:Int) (k:Nat) (w:World) (hx:QIs w x p d k) (hy:QIs w y q e k) (hk:k≤274877906940) :
  Calls Tryz.prog 48 #[x,y] w fun ex w'=>∃ r,ex = .returned r∧QIs w' r (p*q) (d*e) (2*k)∧Below w.heap.size w w':=by
 obtain⟨s1,a1,n1,c1,t1,a2,n2,c2,rfl,HN1,HD1,hd1⟩:=hx.shape
 obtain⟨s2,a3,n3,c3,t2,a4,n4,c4,rfl,HN2,HD2,hd2⟩:=hy.shape
 clear hx hy
 have KW:Hid (Below w.heap.size w (((w.alloc (Obj.cells #[.bool s1,.slice a1 n1 c1,.bool t1,.slice a2 n2 c2] 40)).alloc (Obj.cells #[.bool s2,.slice a3 n3 c3,.bool t2,.slice a4 n4 c4] 40)).alloc (Obj.cells #[.bool false,.slice none 0 0,.bool false,.slice none 0 0] 40))):=boxes3 w _ _ _
 have KN1:=Lib.hid (HN1.out.mono KW.out (Nat.le_refl _))
 have KD1:=Lib.hid (HD1.out.mono KW.out (Nat.le_refl _))
 have KN2:=Lib.hid (HN2.out.mono KW.out (Nat.le_refl _))
 have KD2:=Lib.hid (HD2.out.mono KW.out (Nat.le_refl _))
 have PO1:Hid (Own4 (((w.alloc (Obj.cells #[.bool s1,.slice a1 n1 c1,.bool t1,.slice a2 n2 c2] 40)).alloc (Obj.cells #[.bool s2,.slice a3 n3 c3,.bool t2,.slice a4 n4 c4] 40)).alloc (Obj.cells #[.bool false,.slice none 0 0,.bool false,.slice none 0 0] 40)) w.heap.size (.bool s1) (.slice a1 n1 c1) (.bool t1) (.slice a2 n2 c2)):=((own4_new _ _ rfl _ _ _ _ _).alloc _).alloc _
 have PO2:Hid (Own4 (((w.alloc (Obj.cells #[.bool s1,.slice a1 n1 c1,.bool t1,.slice a2 n2 c2] 40)).alloc (Obj.cells #[.bool s2,.slice a3 n3 c3,.bool t2,.slice a4 n4 c4] 40)).alloc (Obj.cells #[.bool false,.slice none 0 0,.bool false,.slice none 0 0] 40)) (w.heap.size+1) (.bool s2) (.slice a3 n3 c3) (.bool t2) (.slice a4 n4 c4)):=(own4_new _ _ (by simp) _ _ _ _ _).alloc _
 have PO3:Hid (Own4 (((w.alloc (Obj.cells #[.bool s1,.slice a1 n1 c1,.bool t1,.slice a2 n2 c2] 40)).alloc (Obj.cells #[.bool s2,.slice a3 n3 c3,.bool t2,.slice a4 n4 c4] 40)).alloc (Obj.cells #[.bool false,.slice none 0 0,.bool false,.slice none 0 0] 40)) (w.heap.size+1+1) (.bool false) (.slice none 0 0) (.bool false) (.slice none 0 0)):=own4_new _ _ (by simp) _ _ _ _ _
 obtain⟨x10,x11,x12,x13,_,xl1⟩:=PO1.out
 obtain⟨x20,x21,x22,x23,_,xl2⟩:=PO2.out
 obtain⟨x30,x31,x32,x33,xf3,xl3⟩:=PO3.out
 have HP:=Lib.hid (Int.mul_pos hd1 hd2)
 clear hd1 hd2 HN1 HD1 HN2 HD2
 go_enter Tryz.func48,Tryz.ntmps48
 go_wp2
 have PI1:=PO1
 have PI2:=PO2
 have KW:=Lib.hid KW.out.drew
 have KN1:=Lib.hid KN1.out.drew
 have KD1:=Lib.hid KD1.out.drew
 have KN2:=Lib.hid KN2.out.drew
 have KD2:=Lib.hid KD2.out.drew
 have PO1:=Lib.hid PO1.out.drew
 have PO2:=Lib.hid PO2.out.drew
 have PO3:=Lib.hid PO3.out.drew
 go_region_held3 (fun wq=>wq.cell? ⟨w.heap.size,0,none⟩=some (.bool s1)∧wq.cell? ⟨w.heap.size,1,none⟩=some (.slice a1 n1 c1)∧wq.cell? ⟨w.heap.size,2,none⟩=some (.bool t1)∧wq.cell? ⟨w.heap.size,3,none⟩=some (.slice a2 n2 c2)∧wq.cell? ⟨w.heap.size+1,0,none⟩=some (.bool s2)∧wq.cell? ⟨w.heap.size+1,1,none⟩=some (.slice a3 n3 c3)∧wq.cell? ⟨w.heap.size+1,2,none⟩=some (.bool t2)∧wq.cell? ⟨w.heap.size+1,3,none⟩=some (.slice a4 n4 c4)) (first | (with_reducible exact⟨PI1.out.c0,PI1.out.c1,PI1.out.c2,PI1.out.c3,PI2.out.c0,PI2.out.c1,PI2.out.c2,PI2.out.c3⟩) | (with_reducible exact⟨PO1.out.c0,PO1.out.c1,PO1.out.c2,PO1.out.c3,PO2.out.c0,PO2.out.c1,PO2.out.c2,PO2.out.c3⟩) | (with_reducible exact⟨(PO1.out.set4 (w.heap.size+1+1) _ _ _ _ (by omega)).c0,(PO1.out.set4 (w.heap.size+1+1) _ _ _ _ (by omega)).c1,(PO1.out.set4 (w.heap.size+1+1) _ _ _ _ (by omega)).c2,(PO1.out.set4 (w.heap.size+1+1) _ _ _ _ (by omega)).c3,(PO2.out.set4 (w.heap.size+1+1) _ _ _ _ (by omega)).c0,(PO2.out.set4 (w.heap.size+1+1) _ _ _ _ (by omega)).c1,(PO2.out.set4 (w.heap.size+1+1) _ _ _ _ (by omega)).c2,(PO2.out.set4 (w.heap.size+1+1) _ _ _ _ (by omega)).c3⟩))
  (first
  | (go_at_call 45;(with_reducible refine (zmul_any _ _ (p) (q) k k _ KN1.out KN2.out (by omega)).mono ?_);rintro e w5 ⟨r5,rfl,hr5,hb5⟩;(try have KN1:=Lib.hid (KN1.out.mono hb5 (Nat.le_refl _)));(try have KD1:=Lib.hid (KD1.out.mono hb5 (Nat.le_refl _)));(try have KN2:=Lib.hid (KN2.out.mono hb5 (Nat.le_refl _)));(try have KD2:=Lib.hid (KD2.out.mono hb5 (Nat.le_refl _)));(try have KB:=Lib.hid (KB.out.mono hb5 (Nat.le_refl _)));(try have KC:=Lib.hid (KC.out.mono hb5 (Nat.le_refl _)));(try have KE:=Lib.hid (KE.out.mono hb5 (Nat.le_refl _)));have PO1:=Lib.hid (PO1.out.below hb5 PO1.out.lt);have PO2:=Lib.hid (PO2.out.below hb5 PO2.out.lt);have PO3:=Lib.hid (PO3.out.below hb5 PO3.out.lt);have KW:=Lib.hid (KW.out.trans (hb5.mono KW.out.size));clear x10 x11 x12 x13 xl1 x20 x21 x22 x23 xl2 x30 x31 x32 x33 xf3 xl3;obtain⟨x10,x11,x12,x13,_,xl1⟩:=PO1.out;obtain⟨x20,x21,x22,x23,_,xl2⟩:=PO2.out;obtain⟨x30,x31,x32,x33,xf3,xl3⟩:=PO3.out;obtain⟨s5,a5,n5,c5,rfl,KA⟩:=hr5.shape;clear hr5)
  | (go_at_call 45;(with_reducible refine (zmul_any _ _ (d) (e) k k _ KD1.out KD2.out (by omega)).mono ?_);rintro e w6 ⟨r6,rfl,hr6,hb6⟩;(try have KN1:=Lib.hid (KN1.out.mono hb6 (Nat.le_refl _)));(try have KD1:=Lib.hid (KD1.out.mono hb6 (Nat.le_refl _)));(try have KN2:=Lib.hid (KN2.out.mono hb6 (Nat.le_refl _)));(try have KD2:=Lib.hid (KD2.out.mono hb6 (Nat.le_refl _)));(try have KA:=Lib.hid (KA.out.mono hb6 (Nat.le_refl _)));(try have KC:=Lib.hid (KC.out.mono hb6 (Nat.le_refl _)));(try have KE:=Lib.hid (KE.out.mono hb6 (Nat.le_refl _)));have PO1:=Lib.hid (PO1.out.below hb6 PO1.out.lt);have PO2:=Lib.hid (PO2.out.below hb6 PO2.out.lt);have PO3:=Lib.hid (PO3.out.below hb6 PO3.out.lt);have KW:=Lib.hid (KW.out.trans (hb6.mono KW.out.size));clear x10 x11 x12 x13 xl1 x20 x21 x22 x23 xl2 x30 x31 x32 x33 xf3 xl3;obtain⟨x10,x11,x12,x13,_,xl1⟩:=PO1.out;obtain⟨x20,x21,x22,x23,_,xl2⟩:=PO2.out;obtain⟨x30,x31,x32,x33,xf3,xl3⟩:=PO3.out;obtain⟨s6,a6,n6,c6,rfl,KB⟩:=hr6.shape;clear hr6))
 all_goals (try go_wp2)
 all_goals
  refine bodyPost_ret (v:=.agg #[.bool s5,.slice a5 n5 c5,.bool s6,.slice a6 n6 c6]) (by simp [results,Tryz.results48,go_sem,x30,x31,x32,x33,xf3]) rfl ?_
  exact⟨_,rfl,⟨_,_,_,_,rfl,(KA.out.le (by omega)).store4 PO3.out _ _ _ _,(KB.out.le (by omega)).store4 PO3.out _ _ _ _,HP.out⟩,below_set4q KW.out (by omega) _ _ _ _⟩
set_option maxHeartbeats 4000000 in
theorem qadd_any (x y:Value) (p d q e:Int) (k:Nat) (w:World) (hx:QIs w x p d k) (hy:QIs w y q e k) (hk:k≤274877906940) :
  Calls Tryz.prog 18 #[x,y] w fun ex w'=>∃ r,ex = .returned r∧QIs w' r (p*e+q*d) (d*e) (2*k+1)∧Below w.heap.size w w':=by
 obtain⟨s1,a1,n1,c1,t1,a2,n2,c2,rfl,HN1,HD1,hd1⟩:=hx.shape
 obtain⟨s2,a3,n3,c3,t2,a4,n4,c4,rfl,HN2,HD2,hd2⟩:=hy.shape
 clear hx hy
 have KW:Hid (Below w.heap.size w (((w.alloc (Obj.cells #[.bool s1,.slice a1 n1 c1,.bool t1,.slice a2 n2 c2] 40)).alloc (Obj.cells #[.bool s2,.slice a3 n3 c3,.bool t2,.slice a4 n4 c4] 40)).alloc (Obj.cells #[.bool false,.slice none 0 0,.bool false,.slice none 0 0] 40))):=boxes3 w _ _ _
 have KN1:=Lib.hid (HN1.out.mono KW.out (Nat.le_refl _))
 have KD1:=Lib.hid (HD1.out.mono KW.out (Nat.le_refl _))
 have KN2:=Lib.hid (HN2.out.mono KW.out (Nat.le_refl _))
 have KD2:=Lib.hid (HD2.out.mono KW.out (Nat.le_refl _))
 have PO1:Hid (Own4 (((w.alloc (Obj.cells #[.bool s1,.slice a1 n1 c1,.bool t1,.slice a2 n2 c2] 40)).alloc (Obj.cells #[.bool s2,.slice a3 n3 c3,.bool t2,.slice a4 n4 c4] 40)).alloc (Obj.cells #[.bool false,.slice none 0 0,.bool false,.slice none 0 0] 40)) w.heap.size (.bool s1) (.slice a1 n1 c1) (.bool t1) (.slice a2 n2 c2)):=((own4_new _ _ rfl _ _ _ _ _).alloc _).alloc _
 have PO2:Hid (Own4 (((w.alloc (Obj.cells #[.bool s1,.slice a1 n1 c1,.bool t1,.slice a2 n2 c2] 40)).alloc (Obj.cells #[.bool s2,.slice a3 n3 c3,.bool t2,.slice a4 n4 c4] 40)).alloc (Obj.cells #[.bool false,.slice none 0 0,.bool false,.slice none 0 0] 40)) (w.heap.size+1) (.bool s2) (.slice a3 n3 c3) (.bool t2) (.slice a4 n4 c4)):=(own4_new _ _ (by simp) _ _ _ _ _).alloc _
 have PO3:Hid (Own4 (((w.alloc (Obj.cells #[.bool s1,.slice a1 n1 c1,.bool t1,.slice a2 n2 c2] 40)).alloc (Obj.cells #[.bool s2,.slice a3 n3 c3,.bool t2,.slice a4 n4 c4] 40)).alloc (Obj.cells #[.bool false,.slice none 0 0,.bool false,.slice none 0 0] 40)) (w.heap.size+1+1) (.bool false) (.slice none 0 0) (.bool false) (.slice none 0 0)):=own4_new _ _ (by simp) _ _ _ _ _
 obtain⟨x10,x11,x12,x13,_,xl1⟩:=PO1.out
 obtain⟨x20,x21,x22,x23,_,xl2⟩:=PO2.out
 obtain⟨x30,x31,x32,x33,xf3,xl3⟩:=PO3.out
 have HP:=Lib.hid (Int.mul_pos hd1 hd2)
 clear hd1 hd2 HN1 HD1 HN2 HD2
 go_enter Tryz.func18,Tryz.ntmps18
 go_wp2
 have PI1:=PO1
 have PI2:=PO2
 have KW:=Lib.hid KW.out.drew
 have KN1:=Lib.hid KN1.out.drew
 have KD1:=Lib.hid KD1.out.drew
 have KN2:=Lib.hid KN2.out.drew
 have KD2:=Lib.hid KD2.out.drew
 have PO1:=Lib.hid PO1.out.drew
 have PO2:=Lib.hid PO2.out.drew
 have PO3:=Lib.hid PO3.out.drew
 go_region_held3 (fun wq=>wq.cell? ⟨w.heap.size,0,none⟩=some (.bool s1)∧wq.cell? ⟨w.heap.size,1,none⟩=some (.slice a1 n1 c1)∧wq.cell? ⟨w.heap.size,2,none⟩=some (.bool t1)∧wq.cell? ⟨w.heap.size,3,none⟩=some (.slice a2 n2 c2)∧wq.cell? ⟨w.heap.size+1,0,none⟩=some (.bool s2)∧wq.cell? ⟨w.heap.size+1,1,none⟩=some (.slice a3 n3 c3)∧wq.cell? ⟨w.heap.size+1,2,none⟩=some (.bool t2)∧wq.cell? ⟨w.heap.size+1,3,none⟩=some (.slice a4 n4 c4)) (first | (with_reducible exact⟨PI1.out.c0,PI1.out.c1,PI1.out.c2,PI1.out.c3,PI2.out.c0,PI2.out.c1,PI2.out.c2,PI2.out.c3⟩) | (with_reducible exact⟨PO1.out.c0,PO1.out.c1,PO1.out.c2,PO1.out.c3,PO2.out.c0,PO2.out.c1,PO2.out.c2,PO2.out.c3⟩) | (with_reducible exact⟨(PO1.out.set4 (w.heap.size+1+1) _ _ _ _ (by omega)).c0,(PO1.out.set4 (w.heap.size+1+1) _ _ _ _ (by omega)).c1,(PO1.out.set4 (w.heap.size+1+1) _ _ _ _ (by omega)).c2,(PO1.out.set4 (w.heap.size+1+1) _ _ _ _ (by omega)).c3,(PO2.out.set4 (w.heap.size+1+1) _ _ _ _ (by omega)).c0,(PO2.out.set4 (w.heap.size+1+1) _ _ _ _ (by omega)).c1,(PO2.out.set4 (w.heap.size+1+1) _ _ _ _ (by omega)).c2,(PO2.out.set4 (w.heap.size+1+1) _ _ _ _ (by omega)).c3⟩))
  (first
  | (go_at_call 45;(with_reducible refine (zmul_any _ _ (p) (e) k k _ KN1.out KD2.out (by omega)).mono ?_);rintro e w5 ⟨r5,rfl,hr5,hb5⟩;(try have KN1:=Lib.hid (KN1.out.mono hb5 (Nat.le_refl _)));(try have KD1:=Lib.hid (KD1.out.mono hb5 (Nat.le_refl _)));(try have KN2:=Lib.hid (KN2.out.mono hb5 (Nat.le_refl _)));(try have KD2:=Lib.hid (KD2.out.mono hb5 (Nat.le_refl _)));(try have KB:=Lib.hid (KB.out.mono hb5 (Nat.le_refl _)));(try have KC:=Lib.hid (KC.out.mono hb5 (Nat.le_refl _)));(try have KE:=Lib.hid (KE.out.mono hb5 (Nat.le_refl _)));have PO1:=Lib.hid (PO1.out.below hb5 PO1.out.lt);have PO2:=Lib.hid (PO2.out.below hb5 PO2.out.lt);have PO3:=Lib.hid (PO3.out.below hb5 PO3.out.lt);have KW:=Lib.hid (KW.out.trans (hb5.mono KW.out.size));clear x10 x11 x12 x13 xl1 x20 x21 x22 x23 xl2 x30 x31 x32 x33 xf3 xl3;obtain⟨x10,x11,x12,x13,_,xl1⟩:=PO1.out;obtain⟨x20,x21,x22,x23,_,xl2⟩:=PO2.out;obtain⟨x30,x31,x32,x33,xf3,xl3⟩:=PO3.out;obtain⟨s5,a5,n5,c5,rfl,KA⟩:=hr5.shape;clear hr5)
  | (go_at_call 45;(with_reducible refine (zmul_any _ _ (q) (d) k k _ KN2.out KD1.out (by omega)).mono ?_);rintro e w6 ⟨r6,rfl,hr6,hb6⟩;(try have KN1:=Lib.hid (KN1.out.mono hb6 (Nat.le_refl _)));(try have KD1:=Lib.hid (KD1.out.mono hb6 (Nat.le_refl _)));(try have KN2:=Lib.hid (KN2.out.mono hb6 (Nat.le_refl _)));(try have KD2:=Lib.hid (KD2.out.mono hb6 (Nat.le_refl _)));(try have KA:=Lib.hid (KA.out.mono hb6 (Nat.le_refl _)));(try have KC:=Lib.hid (KC.out.mono hb6 (Nat.le_refl _)));(try have KE:=Lib.hid (KE.out.mono hb6 (Nat.le_refl _)));have PO1:=Lib.hid (PO1.out.below hb6 PO1.out.lt);have PO2:=Lib.hid (PO2.out.below hb6 PO2.out.lt);have PO3:=Lib.hid (PO3.out.below hb6 PO3.out.lt);have KW:=Lib.hid (KW.out.trans (hb6.mono KW.out.size));clear x10 x11 x12 x13 xl1 x20 x21 x22 x23 xl2 x30 x31 x32 x33 xf3 xl3;obtain⟨x10,x11,x12,x13,_,xl1⟩:=PO1.out;obtain⟨x20,x21,x22,x23,_,xl2⟩:=PO2.out;obtain⟨x30,x31,x32,x33,xf3,xl3⟩:=PO3.out;obtain⟨s6,a6,n6,c6,rfl,KB⟩:=hr6.shape;clear hr6)
  | (go_at_call 45;(with_reducible refine (zmul_any _ _ (d) (e) k k _ KD1.out KD2.out (by omega)).mono ?_);rintro e w7 ⟨r7,rfl,hr7,hb7⟩;(try have KN1:=Lib.hid (KN1.out.mono hb7 (Nat.le_refl _)));(try have KD1:=Lib.hid (KD1.out.mono hb7 (Nat.le_refl _)));(try have KN2:=Lib.hid (KN2.out.mono hb7 (Nat.le_refl _)));(try have KD2:=Lib.hid (KD2.out.mono hb7 (Nat.le_refl _)));(try have KA:=Lib.hid (KA.out.mono hb7 (Nat.le_refl _)));(try have KB:=Lib.hid (KB.out.mono hb7 (Nat.le_refl _)));(try have KE:=Lib.hid (KE.out.mono hb7 (Nat.le_refl _)));have PO1:=Lib.hid (PO1.out.below hb7 PO1.out.lt);have PO2:=Lib.hid (PO2.out.below hb7 PO2.out.lt);have PO3:=Lib.hid (PO3.out.below hb7 PO3.out.lt);have KW:=Lib.hid (KW.out.trans (hb7.mono KW.out.size));clear x10 x11 x12 x13 xl1 x20 x21 x22 x23 xl2 x30 x31 x32 x33 xf3 xl3;obtain⟨x10,x11,x12,x13,_,xl1⟩:=PO1.out;obtain⟨x20,x21,x22,x23,_,xl2⟩:=PO2.out;obtain⟨x30,x31,x32,x33,xf3,xl3⟩:=PO3.out;obtain⟨s7,a7,n7,c7,rfl,KC⟩:=hr7.shape;clear hr7)
  | (go_at_call 47;(with_reducible refine (badd_any _ _ (p*e) (q*d) (k+k) _ KA.out KB.out (by omega)).mono ?_);rintro e w8 ⟨r8,rfl,hr8,hb8⟩;(try have KN1:=Lib.hid (KN1.out.mono hb8 (Nat.le_refl _)));(try have KD1:=Lib.hid (KD1.out.mono hb8 (Nat.le_refl _)));(try have KN2:=Lib.hid (KN2.out.mono hb8 (Nat.le_refl _)));(try have KD2:=Lib.hid (KD2.out.mono hb8 (Nat.le_refl _)));(try have KA:=Lib.hid (KA.out.mono hb8 (Nat.le_refl _)));(try have KB:=Lib.hid (KB.out.mono hb8 (Nat.le_refl _)));(try have KC:=Lib.hid (KC.out.mono hb8 (Nat.le_refl _)));have PO1:=Lib.hid (PO1.out.below hb8 PO1.out.lt);have PO2:=Lib.hid (PO2.out.below hb8 PO2.out.lt);have PO3:=Lib.hid (PO3.out.below hb8 PO3.out.lt);have KW:=Lib.hid (KW.out.trans (hb8.mono KW.out.size));clear x10 x11 x12 x13 xl1 x20 x21 x22 x23 xl2 x30 x31 x32 x33 xf3 xl3;obtain⟨x10,x11,x12,x13,_,xl1⟩:=PO1.out;obtain⟨x20,x21,x22,x23,_,xl2⟩:=PO2.out;obtain⟨x30,x31,x32,x33,xf3,xl3⟩:=PO3.out;obtain⟨s8,a8,n8,c8,rfl,KE⟩:=hr8.shape;clear hr8))
 all_goals (try go_wp2)
 all_goals
  refine bodyPost_ret (v:=.agg #[.bool s8,.slice a8 n8 c8,.bool s7,.slice a7 n7 c7]) (by simp [results,Tryz.results18,go_sem,x30,x31,x32,x33,xf3]) rfl ?_
  exact⟨_,rfl,⟨_,_,_,_,rfl,(KE.out.le (by omega)).store4 PO3.out _ _ _ _,(KC.out.le (by omega)).store4 PO3.out _ _ _ _,HP.out⟩,below_set4q KW.out (by omega) _ _ _ _⟩
set_option maxHeartbeats 4000000 in
theorem qcmp_any (x y:Value) (p d q e:Int) (k:Nat) (w:World) (hx:QIs w x p d k) (hy:QIs w y q e k) (hk:k≤274877906940) :
  Calls Tryz.prog 14 #[x,y] w fun ex w'=>ex = .returned (.int .i64 (sgZ (p*e - q*d)))∧Below w.heap.size w w':=by
 obtain⟨s1,a1,n1,c1,t1,a2,n2,c2,rfl,HN1,HD1,hd1⟩:=hx.shape
 obtain⟨s2,a3,n3,c3,t2,a4,n4,c4,rfl,HN2,HD2,hd2⟩:=hy.shape
 clear hx hy
 have KW:Hid (Below w.heap.size w ((w.alloc (Obj.cells #[.bool s1,.slice a1 n1 c1,.bool t1,.slice a2 n2 c2] 40)).alloc (Obj.cells #[.bool s2,.slice a3 n3 c3,.bool t2,.slice a4 n4 c4] 40))):=boxes2 w _ _
 have KN1:=Lib.hid (HN1.out.mono KW.out (Nat.le_refl _))
 have KD1:=Lib.hid (HD1.out.mono KW.out (Nat.le_refl _))
 have KN2:=Lib.hid (HN2.out.mono KW.out (Nat.le_refl _))
 have KD2:=Lib.hid (HD2.out.mono KW.out (Nat.le_refl _))
 have PO1:Hid (Own4 ((w.alloc (Obj.cells #[.bool s1,.slice a1 n1 c1,.bool t1,.slice a2 n2 c2] 40)).alloc (Obj.cells #[.bool s2,.slice a3 n3 c3,.bool t2,.slice a4 n4 c4] 40)) w.heap.size (.bool s1) (.slice a1 n1 c1) (.bool t1) (.slice a2 n2 c2)):=(own4_new _ _ rfl _ _ _ _ _).alloc _
 have PO2:Hid (Own4 ((w.alloc (Obj.cells #[.bool s1,.slice a1 n1 c1,.bool t1,.slice a2 n2 c2] 40)).alloc (Obj.cells #[.bool s2,.slice a3 n3 c3,.bool t2,.slice a4 n4 c4] 40)) (w.heap.size+1) (.bool s2) (.slice a3 n3 c3) (.bool t2) (.slice a4 n4 c4)):=own4_new _ _ (by simp) _ _ _ _ _
 obtain⟨x10,x11,x12,x13,_,xl1⟩:=PO1.out
 obtain⟨x20,x21,x22,x23,_,xl2⟩:=PO2.out
 have HP:=Lib.hid (Int.mul_pos hd1 hd2)
 clear hd1 hd2 HN1 HD1 HN2 HD2
 go_enter Tryz.func14,Tryz.ntmps14
 go_wp2
 have PI1:=PO1
 have PI2:=PO2
 have KW:=Lib.hid KW.out.drew
 have KN1:=Lib.hid KN1.out.drew
 have KD1:=Lib.hid KD1.out.drew
 have KN2:=Lib.hid KN2.out.drew
 have KD2:=Lib.hid KD2.out.drew
 have PO1:=Lib.hid PO1.out.drew
 have PO2:=Lib.hid PO2.out.drew
 go_region_held3 (fun wq=>wq.cell? ⟨w.heap.size,0,none⟩=some (.bool s1)∧wq.cell? ⟨w.heap.size,1,none⟩=some (.slice a1 n1 c1)∧wq.cell? ⟨w.heap.size,2,none⟩=some (.bool t1)∧wq.cell? ⟨w.heap.size,3,none⟩=some (.slice a2 n2 c2)∧wq.cell? ⟨w.heap.size+1,0,none⟩=some (.bool s2)∧wq.cell? ⟨w.heap.size+1,1,none⟩=some (.slice a3 n3 c3)∧wq.cell? ⟨w.heap.size+1,2,none⟩=some (.bool t2)∧wq.cell? ⟨w.heap.size+1,3,none⟩=some (.slice a4 n4 c4)) (first | (with_reducible exact⟨PI1.out.c0,PI1.out.c1,PI1.out.c2,PI1.out.c3,PI2.out.c0,PI2.out.c1,PI2.out.c2,PI2.out.c3⟩) | (with_reducible exact⟨PO1.out.c0,PO1.out.c1,PO1.out.c2,PO1.out.c3,PO2.out.c0,PO2.out.c1,PO2.out.c2,PO2.out.c3⟩) | (with_reducible exact⟨(PO1.out.set4 (w.heap.size+1+1) _ _ _ _ (by omega)).c0,(PO1.out.set4 (w.heap.size+1+1) _ _ _ _ (by omega)).c1,(PO1.out.set4 (w.heap.size+1+1) _ _ _ _ (by omega)).c2,(PO1.out.set4 (w.heap.size+1+1) _ _ _ _ (by omega)).c3,(PO2.out.set4 (w.heap.size+1+1) _ _ _ _ (by omega)).c0,(PO2.out.set4 (w.heap.size+1+1) _ _ _ _ (by omega)).c1,(PO2.out.set4 (w.heap.size+1+1) _ _ _ _ (by omega)).c2,(PO2.out.set4 (w.heap.size+1+1) _ _ _ _ (by omega)).c3⟩))
  (first
  | (go_at_call 45;(with_reducible refine (zmul_any _ _ (p) (e) k k _ KN1.out KD2.out (by omega)).mono ?_);rintro e w5 ⟨r5,rfl,hr5,hb5⟩;(try have KN1:=Lib.hid (KN1.out.mono hb5 (Nat.le_refl _)));(try have KD1:=Lib.hid (KD1.out.mono hb5 (Nat.le_refl _)));(try have KN2:=Lib.hid (KN2.out.mono hb5 (Nat.le_refl _)));(try have KD2:=Lib.hid (KD2.out.mono hb5 (Nat.le_refl _)));(try have KB:=Lib.hid (KB.out.mono hb5 (Nat.le_refl _)));(try have KC:=Lib.hid (KC.out.mono hb5 (Nat.le_refl _)));(try have KE:=Lib.hid (KE.out.mono hb5 (Nat.le_refl _)));have PO1:=Lib.hid (PO1.out.below hb5 PO1.out.lt);have PO2:=Lib.hid (PO2.out.below hb5 PO2.out.lt);have KW:=Lib.hid (KW.out.trans (hb5.mono KW.out.size));clear x10 x11 x12 x13 xl1 x20 x21 x22 x23 xl2;obtain⟨x10,x11,x12,x13,_,xl1⟩:=PO1.out;obtain⟨x20,x21,x22,x23,_,xl2⟩:=PO2.out;obtain⟨s5,a5,n5,c5,rfl,KA⟩:=hr5.shape;clear hr5)
  | (go_at_call 45;(with_reducible refine (zmul_any _ _ (q) (d) k k _ KN2.out KD1.out (by omega)).mono ?_);rintro e w6 ⟨r6,rfl,hr6,hb6⟩;(try have KN1:=Lib.hid (KN1.out.mono hb6 (Nat.le_refl _)));(try have KD1:=Lib.hid (KD1.out.mono hb6 (Nat.le_refl _)));(try have KN2:=Lib.hid (KN2.out.mono hb6 (Nat.le_refl _)));(try have KD2:=Lib.hid (KD2.out.mono hb6 (Nat.le_refl _)));(try have KA:=Lib.hid (KA.out.mono hb6 (Nat.le_refl _)));(try have KC:=Lib.hid (KC.out.mono hb6 (Nat.le_refl _)));(try have KE:=Lib.hid (KE.out.mono hb6 (Nat.le_refl _)));have PO1:=Lib.hid (PO1.out.below hb6 PO1.out.lt);have PO2:=Lib.hid (PO2.out.below hb6 PO2.out.lt);have KW:=Lib.hid (KW.out.trans (hb6.mono KW.out.size));clear x10 x11 x12 x13 xl1 x20 x21 x22 x23 xl2;obtain⟨x10,x11,x12,x13,_,xl1⟩:=PO1.out;obtain⟨x20,x21,x22,x23,_,xl2⟩:=PO2.out;obtain⟨s6,a6,n6,c6,rfl,KB⟩:=hr6.shape;clear hr6)
  | (go_at_call 44;(with_reducible refine (zcmp_any _ _ (p*e) (q*d) (k+k) _ KA.out KB.out (by omega)).mono ?_);rintro ex w9 ⟨rfl,hb9⟩;(try have KN1:=Lib.hid (KN1.out.mono hb9 (Nat.le_refl _)));(try have KD1:=Lib.hid (KD1.out.mono hb9 (Nat.le_refl _)));(try have KN2:=Lib.hid (KN2.out.mono hb9 (Nat.le_refl _)));(try have KD2:=Lib.hid (KD2.out.mono hb9 (Nat.le_refl _)));(try have KA:=Lib.hid (KA.out.mono hb9 (Nat.le_refl _)));(try have KB:=Lib.hid (KB.out.mono hb9 (Nat.le_refl _)));(try have KC:=Lib.hid (KC.out.mono hb9 (Nat.le_refl _)));(try have KE:=Lib.hid (KE.out.mono hb9 (Nat.le_refl _)));have PO1:=Lib.hid (PO1.out.below hb9 PO1.out.lt);have PO2:=Lib.hid (PO2.out.below hb9 PO2.out.lt);have KW:=Lib.hid (KW.out.trans (hb9.mono KW.out.size));clear x10 x11 x12 x13 xl1 x20 x21 x22 x23 xl2;obtain⟨x10,x11,x12,x13,_,xl1⟩:=PO1.out;obtain⟨x20,x21,x22,x23,_,xl2⟩:=PO2.out))
 all_goals (try go_wp2)
 all_goals
  go_ret
  exact⟨rfl,KW.out⟩
end Go.Proofs.YtgmopcncbpdniaaGreat
