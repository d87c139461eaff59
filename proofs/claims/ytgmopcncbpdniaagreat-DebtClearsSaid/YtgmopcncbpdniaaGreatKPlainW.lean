import Derived.Test.YtgmopcncbpdniaaGreatKShelf
import Derived.Test.YtgmopcncbpdniaaGreatKPlainT
import Derived.Test.YtgmopcncbpdniaaGreatProg
import Derived.Deep.RegionHeld3
import Derived.Test.YtgmopcncbpdniaaGreatKSol
set_option maxHeartbeats 4000000
set_option linter.unusedVariables false
set_option linter.unusedSimpArgs false
namespace Go.Proofs.YtgmopcncbpdniaaGreat
open Go.RowKit
attribute [local go_sem ↓] Go.wp_at_zero Go.wp_at_succ
theorem low_parts {p d:Int} {q:Rat} (hd:0<d) (h:(p:Rat)=q*(d:Rat)):p / ((Int.gcd p d:Nat):Int)=q.num/\d / ((Int.gcd p d:Nat):Int)=((q.den:Nat):Int):=by
 have e:q=Rat.divInt p d:=by
  rw [Rat.divInt_eq_div,h,Rat.div_def,Rat.mul_assoc,Rat.mul_inv_cancel _ (rat_ne hd),Rat.mul_one]
 rw [e,Rat.num_divInt,Rat.den_divInt,Int.gcd_comm d p];have hs:d.sign=1:=Int.sign_eq_one_of_pos hd;refine⟨by rw [hs,Int.one_mul],?_⟩;rw [if_neg (by omega)];obtain⟨D,rfl⟩:=Int.eq_ofNat_of_zero_le (Int.le_of_lt hd);rw [Int.natAbs_natCast,<-Int.natCast_ediv]
theorem qv_low (x:Value) (q:Rat) (k:Nat) (w:World) (hx:QV w x q k) (hk:k<=274877906940) :
  Calls Tryz.prog 50 #[x] w fun ex w'=>∃ r,ex = .returned r/\QIs w' r q.num ((q.den:Nat):Int) k/\Below w.heap.size w w':=by
 obtain⟨p,d,h,e⟩:=hx;have hd:=h.pos;refine (qlow_any x p d k w h hk).mono ?_;rintro ex w' ⟨r,rfl,hr,hb⟩;obtain⟨e1,e2⟩:=low_parts hd e;rw [e1,e2] at hr;exact⟨r,rfl,hr,hb⟩
theorem ZIs.sign {w:World} {s:Bool} {u:Value} {z:Int} {m:Nat} (h:ZIs w (.agg #[.bool s,u]) z m):s=decide (z<0):=by
 obtain⟨u',e,_⟩:=h;injection e with e;injection e with e;simp only [List.cons.injEq,and_true] at e;obtain⟨e,_⟩:=e;injection e
theorem over_pos (x y:Value) (p d:Int) (k:Nat) (w:World) (hx:ZIs w x p k) (hy:ZIs w y d k) (hd:0<d) :
  Calls Tryz.prog 82 #[x,y] w fun ex w'=>∃ r,ex = .returned r/\QIs w' r p d k/\Below w.heap.size w w':=by
 obtain⟨s1,a1,n1,c1,rfl,HA⟩:=hx.shape;obtain⟨s2,a2,n2,c2,rfl,HB⟩:=hy.shape;clear hx hy;obtain rfl:s2=false:=by rw [HB.out.sign];simp;omega
 have HD:=jj hd;clear hd;have KW:=jj (boxes3 w (Obj.cells #[.bool s1,.slice a1 n1 c1] 38) (Obj.cells #[.bool false,.slice a2 n2 c2] 38) (Obj.cells #[.bool false,.slice none 0 0,.bool false,.slice none 0 0] 40));go_enter Tryz.func82,Tryz.ntmps82;go_wp2_with fail;refine bodyPost_ret (v:=.agg #[.bool s1,.slice a1 n1 c1,.bool false,.slice a2 n2 c2]) (by simp [results,Tryz.results82,go_sem]) rfl ?_;exact⟨_,rfl,⟨_,_,_,_,rfl,HA.out.mono (boxes3 w _ _ _) jl,HB.out.mono (boxes3 w _ _ _) jl,HD.out⟩,boxes3 w _ _ _⟩
theorem over_neg (x y:Value) (p d:Int) (k:Nat) (w:World) (hx:ZIs w x p k) (hy:ZIs w y d k) (hd:d<0) :
  Calls Tryz.prog 82 #[x,y] w fun ex w'=>∃ r,ex = .returned r/\QIs w' r (-p) (-d) k/\Below w.heap.size w w':=by
 obtain⟨s1,a1,n1,c1,rfl,HA⟩:=hx.shape;obtain⟨s2,a2,n2,c2,rfl,HB⟩:=hy.shape;clear hx hy;obtain rfl:s2=true:=by rw [HB.out.sign];simp;omega
 have HD:Hid (0 < -d):=jj (by omega);clear hd;have KW:Hid (Below w.heap.size w (((w.alloc (Obj.cells #[.bool s1,.slice a1 n1 c1] 38)).alloc (Obj.cells #[.bool true,.slice a2 n2 c2] 38)).alloc (Obj.cells #[.bool false,.slice none 0 0,.bool false,.slice none 0 0] 40))):=boxes3 w _ _ _;have KA:=jj (HA.out.mono KW.out jl);have KB:=jj (HB.out.mono KW.out jl);have O1:Hid (Own2 (((w.alloc (Obj.cells #[.bool s1,.slice a1 n1 c1] 38)).alloc (Obj.cells #[.bool true,.slice a2 n2 c2] 38)).alloc (Obj.cells #[.bool false,.slice none 0 0,.bool false,.slice none 0 0] 40)) w.heap.size (.bool s1) (.slice a1 n1 c1)):=((own2_new _ _ rfl _ _ _).alloc _).alloc _;have O2:Hid (Own2 (((w.alloc (Obj.cells #[.bool s1,.slice a1 n1 c1] 38)).alloc (Obj.cells #[.bool true,.slice a2 n2 c2] 38)).alloc (Obj.cells #[.bool false,.slice none 0 0,.bool false,.slice none 0 0] 40)) (w.heap.size+1) (.bool true) (.slice a2 n2 c2)):=(own2_new _ _ (by simp) _ _ _).alloc _;have O3:Hid (Own4 (((w.alloc (Obj.cells #[.bool s1,.slice a1 n1 c1] 38)).alloc (Obj.cells #[.bool true,.slice a2 n2 c2] 38)).alloc (Obj.cells #[.bool false,.slice none 0 0,.bool false,.slice none 0 0] 40)) (w.heap.size+1+1) (.bool false) (.slice none 0 0) (.bool false) (.slice none 0 0)):=own4_new _ _ (by simp) _ _ _ _ _;clear HA HB;go_enter Tryz.func82,Tryz.ntmps82;go_wp2;have KW:=jj KW.out.drew;have KA:=jj KA.out.drew;have KB:=jj KB.out.drew;have O1:=jj O1.out.drew;have O2:=jj O2.out.drew;have O3:=jj O3.out.drew;have x10:=O1.out.c0;have x11:=O1.out.c1;have xl1:=O1.out.lt;have xf1:=O1.out.f;have x20:=O2.out.c0;have x21:=O2.out.c1;have xl2:=O2.out.lt;have xf2:=O2.out.f
 go_region_with (first
  | (go_at_call 93;have X1:=KA.out;clear KA;(with_reducible refine (zneg_any _ p k _ X1).mono ?_);clear X1;rintro e w3 ⟨r3,rfl,hr3,hb3⟩;obtain⟨s3,a3,n3,c3,rfl,KA2⟩:=hr3.shape;clear hr3;have KB:=jj (KB.out.mono hb3 jl);have O1:=jj (O1.out.below hb3 O1.out.lt);have O2:=jj (O2.out.below hb3 O2.out.lt);have O3:=jj (O3.out.below hb3 O3.out.lt);have KW:=jj (jb KW.out hb3);clear x10 x11 xl1 xf1 x20 x21 xl2 xf2;have x10:=O1.out.c0;have x11:=O1.out.c1;have xl1:=O1.out.lt;have xf1:=O1.out.f;have x20:=O2.out.c0;have x21:=O2.out.c1;have xl2:=O2.out.lt;have xf2:=O2.out.f)
  | (go_at_call 93;have X1:=KB.out;clear KB;(with_reducible refine (zneg_any _ d k _ X1).mono ?_);clear X1;rintro e w4 ⟨r4,rfl,hr4,hb4⟩;obtain⟨s4,a4,n4,c4,rfl,KB2⟩:=hr4.shape;clear hr4;have KA2:=jj (KA2.out.mono hb4 jl);have O1:=jj (O1.out.below hb4 O1.out.lt);have O2:=jj (O2.out.below hb4 O2.out.lt);have O3:=jj (O3.out.below hb4 O3.out.lt);have KW:=jj (jb KW.out hb4);clear x10 x11 xl1 xf1 x20 x21 xl2 xf2;have x10:=O1.out.c0;have x11:=O1.out.c1;have xl1:=O1.out.lt;have xf1:=O1.out.f;have x20:=O2.out.c0;have x21:=O2.out.c1;have xl2:=O2.out.lt;have xf2:=O2.out.f))
 all_goals
  have O2':=O2.out.off2 (b':=w.heap.size) (by omega) (.bool s3) (.slice a3 n3 c3);have NA:=jj ((KA2.out.off2 O1.out (noInt_bool _) (noInt_slice _ _ _) (.bool s3) (.slice a3 n3 c3)).off2 O2' (noInt_bool _) (noInt_slice _ _ _) (.bool s4) (.slice a4 n4 c4));have NB:=jj ((KB2.out.off2 O1.out (noInt_bool _) (noInt_slice _ _ _) (.bool s3) (.slice a3 n3 c3)).off2 O2' (noInt_bool _) (noInt_slice _ _ _) (.bool s4) (.slice a4 n4 c4));have Q1:=jj ((O1.out.anew2 (.bool s3) (.slice a3 n3 c3)).off2 (b':=w.heap.size+1) (by omega) (.bool s4) (.slice a4 n4 c4));have Q2:=jj (O2'.anew2 (.bool s4) (.slice a4 n4 c4));have Q3:=jj ((((O3.out.setCell w.heap.size 0 (.bool s3) (by omega)).setCell w.heap.size 1 (.slice a3 n3 c3) (by omega)).setCell (w.heap.size+1) 0 (.bool s4) (by omega)).setCell (w.heap.size+1) 1 (.slice a4 n4 c4) (by omega));have KV:=jj ((((KW.out.setCell (p:=⟨w.heap.size,0,none⟩) jl (.bool s3)).setCell (p:=⟨w.heap.size,1,none⟩) jl (.slice a3 n3 c3)).setCell (p:=⟨w.heap.size+1,0,none⟩) (Nat.le_succ _) (.bool s4)).setCell (p:=⟨w.heap.size+1,1,none⟩) (Nat.le_succ _) (.slice a4 n4 c4));clear KA2 KB2 KW O1 O2 O3 O2' x10 x11 xl1 xf1 x20 x21 xl2 xf2 hb3 hb4;generalize ((((w4.setCell ⟨w.heap.size,0,none⟩ (.bool s3)).setCell ⟨w.heap.size,1,none⟩ (.slice a3 n3 c3)).setCell ⟨w.heap.size+1,0,none⟩ (.bool s4)).setCell ⟨w.heap.size+1,1,none⟩ (.slice a4 n4 c4))=w5 at *
  obtain⟨x10,x11,_,xl1⟩:=Q1.out;obtain⟨x20,x21,_,xl2⟩:=Q2.out;obtain⟨x30,x31,x32,x33,xf3,xl3⟩:=Q3.out;go_wp2_with fail;refine bodyPost_ret (v:=.agg #[.bool s3,.slice a3 n3 c3,.bool s4,.slice a4 n4 c4]) (by simp [results,Tryz.results82,go_sem,x30,x31,x32,x33,xf3,xl3]) rfl ?_;exact⟨_,rfl,⟨_,_,_,_,rfl,NA.out.store4 Q3.out _ _ _ _,NB.out.store4 Q3.out _ _ _ _,HD.out⟩,below_set4q KV.out (by omega) _ _ _ _⟩
theorem over_any (x y:Value) (p d:Int) (k:Nat) (w:World) (hx:ZIs w x p k) (hy:ZIs w y d k) (hd:d≠0) :
  Calls Tryz.prog 82 #[x,y] w fun ex w'=>∃ r P D,ex = .returned r/\QIs w' r P D k/\P*d=p*D/\Below w.heap.size w w':=by
 rcases Int.lt_or_gt_of_ne hd with h | h
 ·refine (over_neg x y p d k w hx hy h).mono ?_;rintro ex w' ⟨r,rfl,hr,hb⟩;exact⟨r,_,_,rfl,hr,by rw [Int.neg_mul,Int.mul_neg],hb⟩
 ·refine (over_pos x y p d k w hx hy h).mono ?_;rintro ex w' ⟨r,rfl,hr,hb⟩;exact⟨r,_,_,rfl,hr,rfl,hb⟩
theorem qdiv_any (x y:Value) (p d q e:Int) (k:Nat) (w:World) (hx:QIs w x p d k) (hy:QIs w y q e k) (hq:q≠0) (hk:k<=274877906940) :
  Calls Tryz.prog 90 #[x,y] w fun ex w'=>∃ r P D,ex = .returned r/\QIs w' r P D (2*k)/\P*(d*q)=p*e*D/\Below w.heap.size w w':=by
 have HQ0:Hid (d*q≠0):=jj (Int.mul_ne_zero (by have:=hx.pos;omega) hq);clear hq;obtain⟨s1,a1,n1,c1,t1,a2,n2,c2,rfl,HN1,HD1,hd1⟩:=hx.shape;obtain⟨s2,a3,n3,c3,t2,a4,n4,c4,rfl,HN2,HD2,hd2⟩:=hy.shape;clear hx hy;have KW:Hid (Below w.heap.size w (((w.alloc (Obj.cells #[.bool s1,.slice a1 n1 c1,.bool t1,.slice a2 n2 c2] 40)).alloc (Obj.cells #[.bool s2,.slice a3 n3 c3,.bool t2,.slice a4 n4 c4] 40)).alloc (Obj.cells #[.bool false,.slice none 0 0,.bool false,.slice none 0 0] 40))):=boxes3 w _ _ _;have KN1:=jj (HN1.out.mono KW.out jl);have KD1:=jj (HD1.out.mono KW.out jl);have KN2:=jj (HN2.out.mono KW.out jl);have KD2:=jj (HD2.out.mono KW.out jl);have PO1:Hid (Own4 (((w.alloc (Obj.cells #[.bool s1,.slice a1 n1 c1,.bool t1,.slice a2 n2 c2] 40)).alloc (Obj.cells #[.bool s2,.slice a3 n3 c3,.bool t2,.slice a4 n4 c4] 40)).alloc (Obj.cells #[.bool false,.slice none 0 0,.bool false,.slice none 0 0] 40)) w.heap.size (.bool s1) (.slice a1 n1 c1) (.bool t1) (.slice a2 n2 c2)):=((own4_new _ _ rfl _ _ _ _ _).alloc _).alloc _;have PO2:Hid (Own4 (((w.alloc (Obj.cells #[.bool s1,.slice a1 n1 c1,.bool t1,.slice a2 n2 c2] 40)).alloc (Obj.cells #[.bool s2,.slice a3 n3 c3,.bool t2,.slice a4 n4 c4] 40)).alloc (Obj.cells #[.bool false,.slice none 0 0,.bool false,.slice none 0 0] 40)) (w.heap.size+1) (.bool s2) (.slice a3 n3 c3) (.bool t2) (.slice a4 n4 c4)):=(own4_new _ _ (by simp) _ _ _ _ _).alloc _;have PO3:Hid (Own4 (((w.alloc (Obj.cells #[.bool s1,.slice a1 n1 c1,.bool t1,.slice a2 n2 c2] 40)).alloc (Obj.cells #[.bool s2,.slice a3 n3 c3,.bool t2,.slice a4 n4 c4] 40)).alloc (Obj.cells #[.bool false,.slice none 0 0,.bool false,.slice none 0 0] 40)) (w.heap.size+1+1) (.bool false) (.slice none 0 0) (.bool false) (.slice none 0 0)):=own4_new _ _ (by simp) _ _ _ _ _;obtain⟨x10,x11,x12,x13,_,xl1⟩:=PO1.out;obtain⟨x20,x21,x22,x23,_,xl2⟩:=PO2.out;obtain⟨x30,x31,x32,x33,xf3,xl3⟩:=PO3.out;have HP:=jj (Int.mul_pos hd1 hd2);clear hd1 hd2 HN1 HD1 HN2 HD2;go_enter Tryz.func90,Tryz.ntmps90;go_wp2;have PI1:=PO1;have PI2:=PO2;have KW:=jj KW.out.drew;have KN1:=jj KN1.out.drew;have KD1:=jj KD1.out.drew;have KN2:=jj KN2.out.drew;have KD2:=jj KD2.out.drew;have PO1:=jj PO1.out.drew;have PO2:=jj PO2.out.drew;have PO3:=jj PO3.out.drew
 go_region_held3 (fun wq=>wq.cell? ⟨w.heap.size,0,none⟩=some (.bool s1)/\wq.cell? ⟨w.heap.size,1,none⟩=some (.slice a1 n1 c1)/\wq.cell? ⟨w.heap.size,2,none⟩=some (.bool t1)/\wq.cell? ⟨w.heap.size,3,none⟩=some (.slice a2 n2 c2)/\wq.cell? ⟨w.heap.size+1,0,none⟩=some (.bool s2)/\wq.cell? ⟨w.heap.size+1,1,none⟩=some (.slice a3 n3 c3)/\wq.cell? ⟨w.heap.size+1,2,none⟩=some (.bool t2)/\wq.cell? ⟨w.heap.size+1,3,none⟩=some (.slice a4 n4 c4)) (first | (with_reducible exact⟨PI1.out.c0,PI1.out.c1,PI1.out.c2,PI1.out.c3,PI2.out.c0,PI2.out.c1,PI2.out.c2,PI2.out.c3⟩) | (with_reducible exact⟨PO1.out.c0,PO1.out.c1,PO1.out.c2,PO1.out.c3,PO2.out.c0,PO2.out.c1,PO2.out.c2,PO2.out.c3⟩) | (with_reducible exact⟨(PO1.out.set4 (w.heap.size+1+1) _ _ _ _ (by omega)).c0,(PO1.out.set4 (w.heap.size+1+1) _ _ _ _ (by omega)).c1,(PO1.out.set4 (w.heap.size+1+1) _ _ _ _ (by omega)).c2,(PO1.out.set4 (w.heap.size+1+1) _ _ _ _ (by omega)).c3,(PO2.out.set4 (w.heap.size+1+1) _ _ _ _ (by omega)).c0,(PO2.out.set4 (w.heap.size+1+1) _ _ _ _ (by omega)).c1,(PO2.out.set4 (w.heap.size+1+1) _ _ _ _ (by omega)).c2,(PO2.out.set4 (w.heap.size+1+1) _ _ _ _ (by omega)).c3⟩))
  (first
  | (go_at_call 45;(with_reducible refine (zmul_any _ _ (p) (e) k k _ KN1.out KD2.out (by omega)).mono ?_);rintro e w5 ⟨r5,rfl,hr5,hb5⟩;(try have KN1:=jj (KN1.out.mono hb5 jl));(try have KD1:=jj (KD1.out.mono hb5 jl));(try have KN2:=jj (KN2.out.mono hb5 jl));(try have KD2:=jj (KD2.out.mono hb5 jl));(try have KB:=jj (KB.out.mono hb5 jl));(try have KC:=jj (KC.out.mono hb5 jl));(try have KE:=jj (KE.out.mono hb5 jl));have PO1:=jj (PO1.out.below hb5 PO1.out.lt);have PO2:=jj (PO2.out.below hb5 PO2.out.lt);have PO3:=jj (PO3.out.below hb5 PO3.out.lt);have KW:=jj (jb KW.out hb5);clear x10 x11 x12 x13 xl1 x20 x21 x22 x23 xl2 x30 x31 x32 x33 xf3 xl3;obtain⟨x10,x11,x12,x13,_,xl1⟩:=PO1.out;obtain⟨x20,x21,x22,x23,_,xl2⟩:=PO2.out;obtain⟨x30,x31,x32,x33,xf3,xl3⟩:=PO3.out;obtain⟨s5,a5,n5,c5,rfl,KA⟩:=hr5.shape;clear hr5)
  | (go_at_call 45;(with_reducible refine (zmul_any _ _ (d) (q) k k _ KD1.out KN2.out (by omega)).mono ?_);rintro e w6 ⟨r6,rfl,hr6,hb6⟩;(try have KN1:=jj (KN1.out.mono hb6 jl));(try have KD1:=jj (KD1.out.mono hb6 jl));(try have KN2:=jj (KN2.out.mono hb6 jl));(try have KD2:=jj (KD2.out.mono hb6 jl));(try have KA:=jj (KA.out.mono hb6 jl));(try have KC:=jj (KC.out.mono hb6 jl));(try have KE:=jj (KE.out.mono hb6 jl));have PO1:=jj (PO1.out.below hb6 PO1.out.lt);have PO2:=jj (PO2.out.below hb6 PO2.out.lt);have PO3:=jj (PO3.out.below hb6 PO3.out.lt);have KW:=jj (jb KW.out hb6);clear x10 x11 x12 x13 xl1 x20 x21 x22 x23 xl2 x30 x31 x32 x33 xf3 xl3;obtain⟨x10,x11,x12,x13,_,xl1⟩:=PO1.out;obtain⟨x20,x21,x22,x23,_,xl2⟩:=PO2.out;obtain⟨x30,x31,x32,x33,xf3,xl3⟩:=PO3.out;obtain⟨s6,a6,n6,c6,rfl,KB⟩:=hr6.shape;clear hr6)
  | (go_at_call 82;(with_reducible refine (over_any _ _ (p*e) (d*q) (k+k) _ KA.out KB.out HQ0.out).mono ?_);rintro e9 w9 ⟨r9,P9,D9,rfl,hr9,hv9,hb9⟩;have HV9:=jj hv9;obtain⟨s9,a9,n9,c9,t9,a8,n8,c8,rfl,HN9,HD9,hd9⟩:=hr9.shape;have HD0:=jj hd9;clear hv9 hd9 hr9;(try have KN1:=jj (KN1.out.mono hb9 jl));(try have KD1:=jj (KD1.out.mono hb9 jl));(try have KN2:=jj (KN2.out.mono hb9 jl));(try have KD2:=jj (KD2.out.mono hb9 jl));have PO1:=jj (PO1.out.below hb9 PO1.out.lt);have PO2:=jj (PO2.out.below hb9 PO2.out.lt);have PO3:=jj (PO3.out.below hb9 PO3.out.lt);have KW:=jj (jb KW.out hb9);clear x10 x11 x12 x13 xl1 x20 x21 x22 x23 xl2 x30 x31 x32 x33 xf3 xl3;obtain⟨x10,x11,x12,x13,_,xl1⟩:=PO1.out;obtain⟨x20,x21,x22,x23,_,xl2⟩:=PO2.out;obtain⟨x30,x31,x32,x33,xf3,xl3⟩:=PO3.out))
 all_goals (try go_wp2)
 all_goals
  refine bodyPost_ret (v:=.agg #[.bool s9,.slice a9 n9 c9,.bool t9,.slice a8 n8 c8]) (by simp [results,Tryz.results90,go_sem,x30,x31,x32,x33,xf3]) rfl ?_;exact⟨_,P9,D9,rfl,⟨_,_,_,_,rfl,(HN9.out.le (by omega)).store4 PO3.out _ _ _ _,(HD9.out.le (by omega)).store4 PO3.out _ _ _ _,HD0.out⟩,HV9.out,below_set4q KW.out (by omega) _ _ _ _⟩
theorem qv_div (x y:Value) (a b:Rat) (k:Nat) (w:World) (hx:QV w x a k) (hy:QV w y b k) (hb:b≠0) (hk:k<=274877906940) :
  Calls Tryz.prog 90 #[x,y] w fun ex w'=>∃ r,ex = .returned r/\QV w' r (a / b) (2*k)/\Below w.heap.size w w':=by
 obtain⟨p,d,h1,e1⟩:=hx;obtain⟨q,e,h2,e2⟩:=hy;have g1:=h1.pos;have g2:=h2.pos
 have hq:q≠0:=fun e0=>by
  subst e0;rcases Rat.mul_eq_zero.1 (show b*(e:Rat)=0 from e2.symm) with h | h
  ·exact hb h
  ·exact rat_ne g2 h
 refine (qdiv_any x y p d q e k w h1 h2 hq hk).mono ?_;rintro ex w' ⟨r,P,D,rfl,hr,hv,hbb⟩;refine⟨r,rfl,⟨P,D,hr,?_⟩,hbb⟩;have h3:((P*(d*q):Int):Rat)=((p*e*D:Int):Rat):=by rw [hv]
 rw [Rat.intCast_mul,Rat.intCast_mul,Rat.intCast_mul,Rat.intCast_mul,e1,e2] at h3;have n1:=rat_ne g1;have n2:=rat_ne g2;have h4:=Rat.mul_inv_cancel _ hb;have h5:=Rat.mul_inv_cancel _ n1;have h6:=Rat.mul_inv_cancel _ n2;rw [Rat.div_def]
 have h7:(P:Rat)*((d:Rat)*(b*(e:Rat)))*((d:Rat)⁻¹*b⁻¹*(e:Rat)⁻¹)=(P:Rat):=by
  have:(P:Rat)*((d:Rat)*(b*(e:Rat)))*((d:Rat)⁻¹*b⁻¹*(e:Rat)⁻¹)=(P:Rat)*((d:Rat)*(d:Rat)⁻¹)*(b*b⁻¹)*((e:Rat)*(e:Rat)⁻¹):=by grind
  rw [this,h4,h5,h6];grind
 rw [<-h7,h3];have:a*(d:Rat)*(e:Rat)*(D:Rat)*((d:Rat)⁻¹*b⁻¹*(e:Rat)⁻¹)=a*b⁻¹*(D:Rat)*((d:Rat)*(d:Rat)⁻¹)*((e:Rat)*(e:Rat)⁻¹):=by grind
 rw [this,h5,h6];grind
theorem make_any (v u:Int) (w:World) (h1 : -9223372036854775808<=v) (h2:v<9223372036854775808) (h3 : -9223372036854775808<=u) (h4:u<9223372036854775808) (hu:u≠0) :
  Calls Tryz.prog 49 #[.int .i64 v,.int .i64 u] w fun ex w'=>∃ r,ex = .returned r/\QIs w' r ((v:Rat) / (u:Rat)).num ((((v:Rat) / (u:Rat)).den:Nat):Int) 5/\Below w.heap.size w w':=by
 have H12:=jj (And.intro h1 h2);have H34:=jj (And.intro h3 h4);have HU:=jj hu;have O4:=jj (own4_new w w.heap.size rfl (.bool false) (.slice none 0 0) (.bool false) (.slice none 0 0) 40);have KW:=jj (boxes1 w (.cells #[.bool false,.slice none 0 0,.bool false,.slice none 0 0] 40));clear h1 h2 h3 h4 hu;go_enter Tryz.func49,Tryz.ntmps49;go_wp2_with fail;refine (zint_any v H12.out.1 H12.out.2 _).mono ?_;rintro e w1 ⟨r1,rfl,hr1,hb1⟩;obtain⟨s1,a1,n1,c1,rfl,K1⟩:=hr1.shape;have O4:=jj (O4.out.below hb1 O4.out.lt);have KW:=jj (jb KW.out hb1);clear hr1 hb1;go_wp2_with fail;refine (zint_any u H34.out.1 H34.out.2 _).mono ?_;rintro e w2 ⟨r2,rfl,hr2,hb2⟩;obtain⟨s2,a2,n2,c2,rfl,K2⟩:=hr2.shape;have K1:=jj (K1.out.mono hb2 jl);have O4:=jj (O4.out.below hb2 O4.out.lt);have KW:=jj (jb KW.out hb2);clear hr2 hb2;go_wp2_with fail;refine (over_any _ _ v u 5 _ K1.out K2.out HU.out).mono ?_;rintro e w3 ⟨r3,P,D,rfl,hr3,hv3,hb3⟩;have hD:=hr3.pos
 have HV:Hid (QV w3 r3 ((v:Rat) / (u:Rat)) 5):=jj ⟨P,D,hr3,by
  have h3:((P*u:Int):Rat)=((v*D:Int):Rat):=by rw [hv3]
  rw [Rat.intCast_mul,Rat.intCast_mul] at h3
  have n1:(u:Rat)≠0:=fun e=>by
   have:((u:Int):Rat)=((0:Int):Rat):=e;exact HU.out (Rat.intCast_inj.1 this)
  have h4:=Rat.mul_inv_cancel _ n1;rw [Rat.div_def];have h5:(P:Rat)=(P:Rat)*(u:Rat)*(u:Rat)⁻¹:=by rw [Rat.mul_assoc,h4];grind
  rw [h5,h3];grind⟩
 obtain⟨s3,a3,n3,c3,t3,a4,n4,c4,rfl,HV⟩:=HV.out.shape;have O4:=jj (O4.out.below hb3 O4.out.lt);have KW:=jj (jb KW.out hb3);clear hr3 hv3 hb3 hD K1 K2;go_wp2_with fail;refine (qv_low _ _ 5 _ HV.out (by omega)).mono ?_;rintro e w4 ⟨r4,rfl,hr4,hb4⟩;obtain⟨s5,a5,n5,c5,t5,a6,n6,c6,rfl,HN,HD,hd⟩:=hr4.shape;have hd:=jj hd;have O4:=jj (O4.out.below hb4 O4.out.lt);have KW:=jj (jb KW.out hb4);clear hr4 hb4;obtain⟨x0,x1,x2,x3,xf,xl⟩:=O4.out;go_wp2_with fail;refine bodyPost_ret (v:=.agg #[.bool s5,.slice a5 n5 c5,.bool t5,.slice a6 n6 c6]) (by simp [results,Tryz.results49,go_sem,x0,x1,x2,x3,xf,xl]) rfl ?_;exact⟨_,rfl,⟨_,_,_,_,rfl,HN.out.store4 O4.out _ _ _ _,HD.out.store4 O4.out _ _ _ _,hd.out⟩,below_set4q KW.out (by omega) _ _ _ _⟩
end Go.Proofs.YtgmopcncbpdniaaGreat
namespace Go.Proofs.YtgmopcncbpdniaaGreat
open Go
def lastAt (ops:Array Oper) (i:Nat):Bool:=
 match ops[i]? with
 | none=>false
 | some (x:Oper)=>x.after.all (fun e=>decide (e.on<i)) && (match x.guard with | none=>true | some (g,_)=>decide (g<i)) &&
   (decide (i+1=ops.size) || (List.range ops.size).any (fun j=>match ops[j]? with | some (y:Oper)=>y.after.any (fun e=>Region.binds .any e && decide (e.on=i)) | none=>false))
def lastB (ops:Array Oper):Bool:=(List.range ops.size).all (lastAt ops)
section
variable {P:Program} {pre:Array Oper} {o:Oper} {Q:Exit->Act->World->Prop}
theorem lastB_spec (h:lastB (pre.push o)=true) (i:Nat) (hi:i<pre.size+1) :
  ∃ x:Oper,(pre.push o)[i]? = some x/\(∀ e ∈ x.after,e.on<i)/\(∀ g b,x.guard=some (g,b)->g<i)/\
   (i+1=pre.size+1\/∃ (j:Nat) (y:Oper),(pre.push o)[j]? = some y/\∃ e ∈ y.after,Region.binds .any e=true/\e.on=i):=by
 unfold lastB at h;rw [List.all_eq_true] at h;have h1:=h i (by simpa using hi);unfold lastAt at h1;split at h1
 ·cases h1
 ·rename_i x hx
  simp only [Bool.and_eq_true,Bool.or_eq_true,decide_eq_true_eq,List.any_eq_true,Array.all_eq_true_iff_forall_mem] at h1;obtain⟨⟨h2,h3⟩,h4⟩:=h1;refine⟨x,hx,h2,fun g b hg=>?_,?_⟩
  ·rw [hg] at h3;simpa using h3
  ·rcases h4 with h4 | ⟨j,_,h5⟩
   ·left;simpa using h4
   ·right;split at h5
    ·rename_i y hy
     rw [Array.any_eq_true'] at h5;simp only [Bool.and_eq_true,decide_eq_true_eq] at h5;obtain⟨e,he,h6,h7⟩:=h5;exact⟨j,y,hy,e,he,h6,h7⟩
    ·cases h5
theorem push_get (i:Nat) (hi:i<pre.size):(pre.push o)[i]? = pre[i]?:=by
 rw [Array.getElem?_push,if_neg (by omega)]
theorem getD_push (L:Array Bool) (c d:Bool) (i:Nat) (hi:i<L.size):(L.push c).getD i d=L.getD i d:=by
 simp [Array.getD,hi,Nat.lt_succ_of_lt hi,Array.getElem_push]
theorem getD_last (L:Array Bool) (c d:Bool):(L.push c).getD L.size d=c:=by
 simp [Array.getD]
theorem getD_in (L:Array Bool) (i:Nat) (hi:i<L.size) (c d:Bool):L.getD i c=L.getD i d:=by
 simp [Array.getD,hi]
theorem getD_ne (L:Array Bool) (i k:Nat) (c d:Bool) (h:k≠i):(L.setIfInBounds i c).getD k d=L.getD k d:=by
 by_cases e:k<L.size
 ·simp [Array.getD,e,Array.getElem_setIfInBounds,Ne.symm h]
 ·simp [Array.getD,e]
theorem set_last (L:Array Bool) (n:Nat) (h:L.size=n):(L.push false).setIfInBounds n true=L.push true:=by
 apply Array.ext_getElem?;intro k;rw [Array.getElem?_setIfInBounds,Array.getElem?_push,Array.getElem?_push];by_cases e:n=k
 ·subst e;subst h;simp
 ·rw [if_neg e,if_neg (by omega),if_neg (by omega)]
theorem set_early (L:Array Bool) (i:Nat) (h:i<L.size):(L.push false).setIfInBounds i true=(L.setIfInBounds i true).push false:=by
 apply Array.ext_getElem?;intro k;rw [Array.getElem?_setIfInBounds,Array.getElem?_push,Array.getElem?_push,Array.getElem?_setIfInBounds];by_cases e:i=k
 ·subst e;simp [h,Nat.lt_succ_of_lt h,Nat.ne_of_lt h]
 ·rw [if_neg e,if_neg e];simp
def ClL (pre:Array Oper) (L:Array Bool):Prop:=∀ j x,L.getD j false=true->pre[j]? = some x->∀ e ∈ x.after,Region.binds .any e=true->L.getD e.on false=true
theorem clL_set {L:Array Bool} (h:ClL pre L) {i:Nat} (hi:i ∈ Region.ready .any pre L):ClL pre (L.setIfInBounds i true):=by
 obtain⟨hu,x,hx,hall⟩:=mem_ready.1 hi
 have key:∀ k,L.getD k false=true->(L.setIfInBounds i true).getD k false=true:=fun k hk=>by
  by_cases e:k=i
  ·subst e
   have:k<L.size:=by
    refine Nat.lt_of_not_le (fun hn=>?_);simp [Array.getD,Nat.not_lt.2 hn] at hk
   simp [Array.getD,this]
  ·rw [getD_ne _ _ _ _ _ e];exact hk
 intro j y hj hy e he hb;by_cases ej:j=i
 ·subst ej;rw [hx] at hy;injection hy with hy;subst hy;exact key _ (hall e he hb)
 ·rw [getD_ne _ _ _ _ _ ej] at hj;exact key _ (h j y hj hy e he hb)
theorem ready_push (hB:lastB (pre.push o)=true) {L:Array Bool} (hL:L.size=pre.size) (c:Bool) (i:Nat) (hi:i<pre.size):i ∈ Region.ready .any (pre.push o) (L.push c)↔i ∈ Region.ready .any pre L:=by
 obtain⟨x,hx,h1,-,-⟩:=lastB_spec hB i (by omega);rw [mem_ready,mem_ready,getD_push L c true i (by omega),push_get i hi];rw [push_get i hi] at hx;constructor
 ·rintro ⟨a,y,hy,h⟩;refine⟨a,y,hy,fun e he hb=>?_⟩;rw [hx] at hy;injection hy with hy;subst hy;have:=h1 e he;rw [<-getD_push L c false e.on (by omega)];exact h e he hb
 ·rintro ⟨a,y,hy,h⟩;refine⟨a,y,hy,fun e he hb=>?_⟩;rw [hx] at hy;injection hy with hy;subst hy;have:=h1 e he;rw [getD_push L c false e.on (by omega)];exact h e he hb
theorem last_not (hB:lastB (pre.push o)=true) {L:Array Bool} (hL:L.size=pre.size) (hC:ClL pre L) (hn:pre.size ∈ Region.ready .any (pre.push o) (L.push false)):∀ d i,i+d+1=pre.size->L.getD i false=true:=by
 obtain⟨-,x,hx,hall⟩:=mem_ready.1 hn;intro d
 induction d using Nat.strongRecOn with
 | ind d ih=>
  intro i hi;obtain⟨y,hy,-,-,h4⟩:=lastB_spec hB i (by omega);rcases h4 with h4 | ⟨j,z,hz,e,he,hb,hei⟩
  ·omega
  ·have hjs:j<pre.size+1:=by
    have:=(Array.getElem?_eq_some_iff.1 hz).1;simpa using this
   obtain⟨z',hz',h5,-,-⟩:=lastB_spec hB j hjs;rw [hz] at hz';injection hz' with hz';subst hz';have hij:=h5 e he;rw [hei] at hij;by_cases ej:j=pre.size
   ·subst ej;rw [hx] at hz;injection hz with hz;subst hz;have:=hall e he hb;rw [hei,getD_push L false false i (by omega)] at this;exact this
   ·have hjl:=ih (pre.size - j - 1) (by omega) j (by omega);rw [push_get j (by omega)] at hz;have:=hC j z hjl hz e he hb;rw [hei] at this;exact this
theorem none_left (hB:lastB (pre.push o)=true) {L:Array Bool} (hL:L.size=pre.size) (hr:Region.ready .any pre L = []):∀ i,i<pre.size->L.getD i false=true:=by
 intro i
 induction i using Nat.strongRecOn with
 | ind i ih=>
  intro hi;obtain⟨x,hx,h1,-,-⟩:=lastB_spec hB i (by omega);rw [push_get i hi] at hx;rcases hl:L.getD i false with _ | _
  ·have:i ∈ Region.ready .any pre L:=mem_ready.2 ⟨by rw [getD_in L i (by omega) true false];exact hl,x,hx,fun e he hb=>ih e.on (h1 e he) (by have:=h1 e he;omega)⟩;rw [hr] at this;cases this
  ·rfl
theorem all_then (hB:lastB (pre.push o)=true) {L:Array Bool} (hL:L.size=pre.size) (hall:∀ i,i<pre.size->L.getD i false=true) :
  (∀ j,j ∈ Region.ready .any (pre.push o) (L.push false)↔j=pre.size)/\Region.ready .any (pre.push o) (L.push true) = []:=by
 refine⟨fun j=>⟨fun hj=>?_,fun hj=>?_⟩,?_⟩
 ·obtain⟨hu,x,hx,_⟩:=mem_ready.1 hj;have hjs:j<pre.size+1:=by simpa using (Array.getElem?_eq_some_iff.1 hx).1
  by_cases e:j=pre.size
  ·exact e
  ·have h1:=hall j (by omega);rw [getD_push L false true j (by omega),getD_in L j (by omega) true false,h1] at hu;cases hu
 ·subst hj;obtain⟨x,hx,h1,-,-⟩:=lastB_spec hB pre.size (by omega);refine mem_ready.2 ⟨by rw [<-hL,getD_last],x,hx,fun e he hb=>?_⟩;have:=h1 e he;rw [getD_push L false false e.on (by omega)];exact hall _ this
 ·refine List.eq_nil_iff_forall_not_mem.2 (fun j hj=>?_);obtain⟨hu,x,hx,_⟩:=mem_ready.1 hj;have hjs:j<pre.size+1:=by simpa using (Array.getElem?_eq_some_iff.1 hx).1
  by_cases e:j=pre.size
  ·subst e;rw [<-hL,getD_last] at hu;cases hu
  ·have h1:=hall j (by omega);rw [getD_push L true true j (by omega),getD_in L j (by omega) true false,h1] at hu;cases hu
def LastQ (P:Program) (ops:Array Oper) (n:Nat) (Q:Exit->Act->World->Prop):Exit->Act->World->Prop:=Exit.then (wpOp P ops Q n (Q .normal)) Q
theorem letsOut_last {ops:Array Oper} {n:Nat} (h:LetsOut (LastQ P ops n Q)):LetsOut Q:=h
theorem oper_last {x:Oper} {ops:Array Oper} {n:Nat} {K:Act->World->Prop} {a:Act} {w:World} (h:x.wp P a w K (LastQ P ops n Q)):x.wp P a w K Q:=by
 unfold Oper.wp at *
 generalize (execOp a.eval x).run P w=r at *
 cases r with
 | ok m w'=>cases m <;> exact h
 | halt e w'=>cases e <;> exact h
theorem yielded_push (a:Act) (g:Nat) (hg:g<pre.size):yielded (pre.push o) a.tmps g=yielded pre a.tmps g:=by
 unfold yielded;rw [push_get g hg]
theorem wanted_push {x:Oper} (a:Act) (hg:∀ g b,x.guard=some (g,b)->g<pre.size):Region.wanted x (yielded (pre.push o) a.tmps)=Region.wanted x (yielded pre a.tmps):=by
 unfold Region.wanted;split
 ·rfl
 ·rename_i g b e
  rw [yielded_push a g (hg g b e)]
theorem wpOp_last (hB:lastB (pre.push o)=true) {ops:Array Oper} {n i:Nat} (hi:i<pre.size) {K K':Act->World->Prop} (hK:∀ a w,K a w->K' a w) {a:Act} {w:World} (h:wpOp P pre (LastQ P ops n Q) i K a w):wpOp P (pre.push o) Q i K' a w:=by
 obtain⟨x,hx,-,h3,-⟩:=lastB_spec hB i (by omega);have hx':=hx;rw [push_get i hi] at hx';unfold wpOp at *
 rw [hx];rw [hx'] at h;simp only at h ⊢;rw [wanted_push a (fun g b e=>Nat.lt_trans (h3 g b e) hi)];split
 ·rename_i hw
  rw [if_pos hw] at h;rcases h with h | ⟨h1,h2⟩
  ·exact .inl (oper_last (Oper.wp_mono hK h))
  ·exact .inr ⟨h1,letsOut_last h2⟩
 ·rename_i hw
  rw [if_neg hw] at h;exact hK _ _ h
theorem wpAny_last (hB:lastB (pre.push o)=true):∀ (fuel:Nat) (L:Array Bool) (a:Act) (w:World),L.size=pre.size->ClL pre L->
  wpAny P .any pre (LastQ P (pre.push o) pre.size Q) fuel L a w->wpAny P .any (pre.push o) Q (fuel+1) (L.push false) a w:=by
 have fin:∀ (fuel:Nat) (L:Array Bool) (a:Act) (w:World),L.size=pre.size->Region.ready .any pre L = []->LastQ P (pre.push o) pre.size Q .normal a w->wpAny P .any (pre.push o) Q (fuel+1) (L.push false) a w:=by
  intro fuel L a w hL hr hq;obtain⟨g1,g2⟩:=all_then hB hL (none_left hB hL hr);refine⟨fun h=>?_,fun i hi=>?_⟩
  ·have:=(g1 pre.size).2 rfl;rw [h] at this;cases this
  ·have e:=(g1 i).1 hi;subst e;have hs:=set_last L pre.size hL;rw [hs];refine wpOp_mono (fun a w h=>?_) (show wpOp P (pre.push o) Q pre.size (Q .normal) a w from hq);cases fuel with
   | zero=>exact⟨g2,h⟩
   | succ f=>exact⟨fun _=>h,fun i hi=>by rw [g2] at hi;cases hi⟩
 intro fuel
 induction fuel with
 | zero=>intro L a w hL hC h;exact fin 0 L a w hL h.1 h.2
 | succ fuel ih=>
  intro L a w hL hC h;by_cases hr:Region.ready .any pre L = []
  ·exact fin (fuel+1) L a w hL hr (h.1 hr)
  ·refine⟨fun h2=>?_,fun i hi=>?_⟩
   ·obtain⟨j,hj⟩:=List.exists_mem_of_ne_nil _ hr
    have hjs:j<pre.size:=by
     obtain⟨_,x,hx,_⟩:=mem_ready.1 hj;exact (Array.getElem?_eq_some_iff.1 hx).1
    have:=(ready_push hB hL false j hjs).2 hj;rw [h2] at this;cases this
   ·have his:i<pre.size:=by
     obtain⟨_,x,hx,_⟩:=mem_ready.1 hi;have hjs:i<pre.size+1:=by simpa using (Array.getElem?_eq_some_iff.1 hx).1
     refine Nat.lt_of_le_of_ne (by omega) (fun e=>?_);subst e;have hall:=last_not hB hL hC hi;refine hr (List.eq_nil_iff_forall_not_mem.2 (fun j hj=>?_));obtain⟨hu,y,hy,_⟩:=mem_ready.1 hj;have hjs:j<pre.size:=(Array.getElem?_eq_some_iff.1 hy).1;have h1:=hall (pre.size - j - 1) j (by omega);rw [getD_in L j (by omega) true false,h1] at hu;cases hu
    have hi':=(ready_push hB hL false i his).1 hi;have hs:=set_early L i (by omega);rw [hs];exact wpOp_last hB his (fun a w h3=>ih _ _ _ (by simpa using hL) (clL_set hC hi') h3) (h.2 i hi')
theorem wp_region_last {ops:Array Oper} {S:World->Prop} {id:Nat} {a:Act} {w:World} (hm:P.follows .mixedOrders=true) (hB:(decide (0<ops.size) && lastB ops)=true) (hS:S w.drew)
  (h:S w.drew->wpAnyH P .any ops.pop (LastQ P ops ops.pop.size Q) S ops.pop.size (Array.replicate ops.pop.size false) a w.drew):(Code.region id ops true).wp P Q a w:=by
 rw [Bool.and_eq_true,decide_eq_true_eq] at hB;obtain⟨h0,hB⟩:=hB;obtain⟨pre,o,rfl⟩:∃ pre o,ops=Array.push pre o:=Array.eq_push_of_size_ne_zero (by omega);rw [Array.pop_push] at h;refine wp_region_any hm ?_
 have h1:=wpAny_last hB pre.size (Array.replicate pre.size false) a w.drew (by simp) (fun j x hj=>by
  exfalso;simp [Array.getD] at hj) (wpAny_of_held _ _ _ _ (h hS))
 have e:(Array.replicate pre.size false).push false=Array.replicate (pre.push o).size false:=by simp [Array.replicate_succ]
 rw [e] at h1;simpa using h1
theorem lastQ_step {n:Nat} {ops:Array Oper} {x:Oper} {a:Act} {w:World} (ho:ops[n]? = some x)
  (h:∀ K:Act->World->Prop,Shut (∀ a w,Q .normal a w->K a w)->if Region.wanted x (yielded ops a.tmps)=true then Oper.wp P x a w K Q else K (a.put x.dst undef) w):LastQ P ops n Q .normal a w:=
 wpOp_step ho (fun K' hK=>h K' (fun a w hq=>hK a w hq))
end
end Go.Proofs.YtgmopcncbpdniaaGreat
namespace Go.Proofs.YtgmopcncbpdniaaGreat
variable {n:Nat} {cash:Nat->Int} {d:Nat->Nat->Int}
def totQ (n:Nat) (d:Nat->Nat->Int) (i:Nat):Rat:=((sumF (d i) n:Int):Rat)
theorem totG_none (n:Nat) (d:Nat->Nat->Int):totG (fun _=>false) n d=totQ n d:=by funext i;simp [totG,totQ]
theorem sumF_cast (f:Nat->Int):∀ n,((sumF f n:Int):Rat)=sumQ (fun i=>(f i:Rat)) n
 | 0=>by simp [sumF,sumQ]
 | n+1=>by simp only [sumF,sumQ];rw [Rat.intCast_add,sumF_cast f n]
theorem sumF_nn {f:Nat->Int} (h:∀ i,0<=f i):∀ n,0<=sumF f n
 | 0=>Int.le_refl _
 | n+1=>by simp only [sumF];have:=sumF_nn h n;have:=h n;omega
def tI (n:Nat) (d:Nat->Nat->Int) (j:Nat):Int:=if sumF (d j) n=0 then 1 else sumF (d j) n
def eI (n:Nat) (d:Nat->Nat->Int) (j i:Nat):Int:=if sumF (d j) n=0 then 0 else d j i
theorem tI_pos (hd:∀ i j,0<=d i j) (j:Nat):0<tI n d j:=by
 unfold tI;split
 ·omega
 ·have:=sumF_nn (hd j) n;omega
theorem tI_ne (hd:∀ i j,0<=d i j) (j:Nat):((tI n d j:Int):Rat)≠0:=fun e=>by
 have h1:=tI_pos (n:=n) hd j;have h2:((tI n d j:Int):Rat)=((0:Int):Rat):=e;have:=Rat.intCast_inj.1 h2;omega
theorem shQ_eq (j i:Nat):shQ n d j i=((eI n d j i:Int):Rat) / ((tI n d j:Int):Rat):=by
 unfold shQ shareQ eI tI;split
 ·rw [Rat.div_def];simp
 ·rfl
theorem eI_nn (hd:∀ i j,0<=d i j) (j i:Nat):0<=eI n d j i:=by
 unfold eI;split
 ·omega
 ·exact hd j i
theorem shQ_pos (hd:∀ i j,0<=d i j) (j i:Nat):0<=shQ n d j i:=by
 rw [shQ_eq,Rat.div_def];exact Rat.mul_nonneg (Rat.intCast_nonneg.2 (eI_nn hd j i)) (Rat.le_of_lt (inv_pos' (Rat.intCast_pos.2 (tI_pos hd j))))
theorem shQ_one (hd:∀ i j,0<=d i j) (j:Nat):sumQ (fun i=>shQ n d j i) n<=1:=by
 rw [sumQ_congr n (g:=fun i=>((tI n d j:Int):Rat)⁻¹*((eI n d j i:Int):Rat)) (fun i _=>by rw [shQ_eq,Rat.div_def,Rat.mul_comm]),sumQ_mul];have h1:=tI_ne (n:=n) hd j;unfold tI eI at *
 split
 ·rename_i h
  simp only [h,if_true] at h1 ⊢;rw [sumQ_eq_zero n (fun i _=>by simp)];rw [Rat.mul_zero];decide
 ·rename_i h
  simp only [h,if_false] at h1 ⊢;rw [<-sumF_cast,Rat.inv_mul_cancel _ h1];exact Rat.le_refl
theorem mktQ_of (hR:Rng n cash d) (hd:∀ i j,0<=d i j):MktQ n (cashQ cash) (totQ n d) (shQ n d):=
 ⟨⟨shQ_pos hd,fun j _=>shQ_one hd j⟩,fun i hi=>Rat.intCast_nonneg.2 (hR.csh i hi).1,fun i _=>Rat.intCast_nonneg.2 (sumF_nn (hd i) n)⟩
def payI (n:Nat) (cash:Nat->Int) (d:Nat->Nat->Int) (F:Nat->Bool) (r j:Nat):Int:=
 if j<n then (if j=r then tI n d r else 0) - (if F r then eI n d j r else 0) else (if F r then cash r else sumF (d r) n)
theorem payI_sum (hd:∀ i j,0<=d i j) (F:Nat->Bool) (z:Nat->Rat) (r:Nat) (hr:r<n) :
  sumQ (fun j=>(payI n cash d F r j:Rat)*z j) n=((tI n d r:Int):Rat)*z r - (if F r then sumQ (fun j=>((tI n d j:Int):Rat)*z j*shQ n d j r) n else 0):=by
 have e1:sumQ (fun j=>(payI n cash d F r j:Rat)*z j) n=sumQ (fun j=>(if j=r then ((tI n d r:Int):Rat)*z r else 0)) n - sumQ (fun j=>if F r then ((tI n d j:Int):Rat)*z j*shQ n d j r else 0) n:=by
  rw [<-sumQ_sub];refine sumQ_congr n (fun j hj=>?_);unfold payI;rw [if_pos hj,Rat.intCast_sub]
  have e2:((tI n d j:Int):Rat)*z j*shQ n d j r=((eI n d j r:Int):Rat)*z j:=by
   rw [shQ_eq,Rat.div_def];have:=tI_ne (n:=n) hd j;have h2:=Rat.mul_inv_cancel _ this;grind
  rw [e2];by_cases e:j=r
  ·subst e;by_cases hF:F j=true
   ·simp [hF];grind
   ·simp [hF];grind
  ·by_cases hF:F r=true
   ·simp [e,hF];grind
   ·simp [e,hF];grind
 rw [e1,sumQ_one _ r n hr (fun i _ hn=>if_neg hn),if_pos rfl];congr 1;by_cases hF:F r=true
 ·simp [hF]
 ·simp only [hF,if_false];exact sumQ_eq_zero n (fun i _=>by simp)
theorem payI_sys (hR:Rng n cash d) (hn:n<=8) (hd:∀ i j,0<=d i j) {F:Nat->Bool} (hF:NoClosed n (shQ n d) (fun i=>F i=true)) {p:Nat->Rat} (hp:SolF n (cashQ cash) (totQ n d) (shQ n d) F p) :
  SysI n n (fun _=>False) (payI n cash d F) 200000 (fun j=>p j / ((tI n d j:Int):Rat)):=by
 have hq:∀ j,((tI n d j:Int):Rat)*(p j / ((tI n d j:Int):Rat))=p j:=fun j=>by
  have h1:=tI_ne (n:=n) hd j;have h2:=Rat.mul_inv_cancel _ h1;rw [Rat.div_def];grind
 refine⟨fun r j hr hj=>?_,fun _ _ _ _ h=>h.elim,fun r hr=>?_,fun z _ hz=>?_⟩
 ·have t1:=hR.tot r hr;have c1:=hR.csh r hr;have et:tI n d r<=100000/\0<tI n d r:=⟨by unfold tI;split <;> omega,tI_pos hd r⟩;unfold payI;by_cases hjn:j<n
  ·rw [if_pos hjn];have ee:0<=eI n d j r/\eI n d j r<=1000:=⟨eI_nn hd j r,by unfold eI;have:=(hR.deb j r hjn hr).2;split <;> omega⟩;split <;> split <;> omega
  ·rw [if_neg hjn];split <;> omega
 ·rw [payI_sum hd F _ r hr,hq r];have e:sumQ (fun j=>((tI n d j:Int):Rat)*(p j / ((tI n d j:Int):Rat))*shQ n d j r) n=sumQ (fun j=>p j*shQ n d j r) n:=sumQ_congr n (fun j _=>by rw [hq j]);rw [e];unfold payI;rw [if_neg (Nat.lt_irrefl _)];by_cases hFr:F r=true
  ·have h1:=hp.on r hr hFr;unfold hasP cashQ at h1;simp only [hFr,if_true];grind
  ·have hf:F r=false:=by simpa using hFr
   have h1:=hp.no r hr hf;simp only [hf,Bool.false_eq_true,if_false];rw [h1];unfold totQ;grind
 ·have hu:∀ r,r<n->((tI n d r:Int):Rat)*z r=if F r then sumQ (fun j=>((tI n d j:Int):Rat)*z j*shQ n d j r) n else 0:=fun r hr=>by
   have h1:=hz r hr;rw [payI_sum hd F z r hr] at h1;grind
  have hm:=mktQ_of hR hd
  have b1:=below_zero hm.sh hF (fun j=>((tI n d j:Int):Rat)*z j) (fun i hi hn=>by
   have h1:=hu i hi;rw [if_neg hn] at h1;rw [h1];exact Rat.le_refl) (fun i hi hf=>by
   have h1:=hu i hi;rw [if_pos hf] at h1;rw [h1];exact Rat.le_refl)
  have b2:=below_zero hm.sh hF (fun j=>- (((tI n d j:Int):Rat)*z j)) (fun i hi hn=>by
   have h1:=hu i hi;rw [if_neg hn] at h1;rw [h1];simp) (fun i hi hf=>by
   have h1:=hu i hi;rw [if_pos hf] at h1
   have e3:sumQ (fun j=>- (((tI n d j:Int):Rat)*z j)*shQ n d j i) n = - sumQ (fun j=>((tI n d j:Int):Rat)*z j*shQ n d j i) n:=by
    have:=sumQ_mul (-1) (fun j=>((tI n d j:Int):Rat)*z j*shQ n d j i) n;rw [sumQ_congr n (g:=fun j=>(-1)*(((tI n d j:Int):Rat)*z j*shQ n d j i)) (fun j _=>by grind),this];grind
   rw [e3,h1];exact Rat.le_refl)
  intro j hj;have h1:=b1 j hj;have h2:=b2 j hj;have h3:=tI_ne (n:=n) hd j;have h4:((tI n d j:Int):Rat)*z j=0:=by grind
  rcases Rat.mul_eq_zero.1 h4 with h | h
  ·exact absurd h h3
  ·exact h
theorem bdI_mono (B:Nat):∀ c c',c<=c'->bdI B c<=bdI B c':=fun c c' h=>by
 obtain⟨k,rfl⟩:=Nat.exists_eq_add_of_le h
 induction k with
 | zero=>exact Nat.le_refl _
 | succ k ih=>exact Nat.le_trans (ih (by omega)) (bdI_le B (c+k))
theorem bd_num:100000*bdI 200000 8<4294967296 ^ 200:=by decide +kernel
theorem bd_ten:100000*bdI 200000 8<10 ^ 4000:=by decide +kernel
theorem pay_small (hR:Rng n cash d) (hn:n<=8) (hd:∀ i j,0<=d i j) {F:Nat->Bool} (hF:NoClosed n (shQ n d) (fun i=>F i=true)) {p:Nat->Rat} (hp:SolF n (cashQ cash) (totQ n d) (shQ n d) F p) (i:Nat) (hi:i<n) :
  szQ (p i)<=200/\(p i).num.natAbs<=100000*bdI 200000 8/\(p i).den<=100000*bdI 200000 8:=by
 obtain⟨P,Q,h1,h2,h3,h4⟩:=(payI_sys hR hn hd hF hp).bound i hi;have hb:=bdI_mono 200000 n 8 hn;have t1:=hR.tot i hi;have et:(tI n d i).natAbs<=100000:=by have:=tI_pos (n:=n) hd i;unfold tI at *;split <;> split at this <;> omega
 have e:(Q:Rat)*p i=((tI n d i*P:Int):Rat):=by
  have h5:=tI_ne (n:=n) hd i;have h6:=Rat.mul_inv_cancel _ h5;rw [Rat.intCast_mul,<-h4,Rat.div_def];grind
 obtain⟨k1,k2⟩:=lowest_le h1 e
 have m1:(tI n d i*P).natAbs<=100000*bdI 200000 8:=by
  rw [Int.natAbs_mul];exact Nat.mul_le_mul et (Nat.le_trans h2 hb)
 have m2:Q.natAbs<=100000*bdI 200000 8:=Nat.le_trans (Nat.le_trans h3 hb) (Nat.le_mul_of_pos_left _ (by decide));have a1:=Nat.le_trans k1 m1;have a2:=Nat.le_trans k2 m2;exact⟨szQ_le ((nl_le _ _).2 (Nat.lt_of_le_of_lt a1 bd_num)) ((nl_le _ _).2 (Nat.lt_of_le_of_lt a2 bd_num)),a1,a2⟩
end Go.Proofs.YtgmopcncbpdniaaGreat
