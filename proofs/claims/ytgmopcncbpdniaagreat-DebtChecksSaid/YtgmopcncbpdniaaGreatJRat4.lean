import Derived.Test.YtgmopcncbpdniaaGreatJRat1
import Derived.Test.YtgmopcncbpdniaaGreatJOwn
set_option linter.unusedVariables false
set_option linter.unusedSimpArgs false
namespace Go.Proofs.YtgmopcncbpdniaaGreat
open Go.RowKit
attribute [local go_sem ↓] Go.wp_at_zero Go.wp_at_succ
set_option maxHeartbeats 1000000 in
theorem rat_fromInt (x:Value) (n:Int) (k:Nat) (w:World) (hx:IntIs w x n k) (hk:2≤k) :
  Calls Tryz.prog 97 #[x] w fun e w'=>∃ r,e = .returned r∧RatIs w' r (n:Rat) k∧Below w.heap.size w w':=by
 obtain⟨s1,a1,n1,c1,rfl,H1⟩:=hx.shape
 clear hx
 have HB:Hid (Below w.heap.size w ((w.alloc (Obj.cells #[.bool s1,.slice a1 n1 c1] 90)).alloc (Obj.cells #[.bool false,.slice none 0 0,.bool false,.slice none 0 0] 92))):=boxes2 w _ _
 go_enter Tryz.func97,Tryz.ntmps97
 go_wp2
 go_region_held3 (fun w'=>w'.cell? ⟨w.heap.size,0,none⟩=some (.bool s1)∧w'.cell? ⟨w.heap.size,1,none⟩=some (.slice a1 n1 c1)) (go_keep)
  (first
  | (go_at_call 94;(with_reducible refine (int_of 1 (by omega) (by omega) _).mono ?_);rintro e w2 ⟨r2,rfl,hr2,hb2⟩;obtain⟨s2,a2,n2,c2,rfl,H2⟩:=hr2.shape;clear hr2;obtain⟨p1,p2⟩:=kept1 hb2 (w.heap.size+1) (by simp);obtain⟨p3,p4⟩:=kept1 hb2 w.heap.size (by simp;omega)))
 go_wp2
 have x0:w2.cell? ⟨w.heap.size+1,0,none⟩=some (.bool false):=by rw [p1];simp [go_sem]
 have x1:w2.cell? ⟨w.heap.size+1,1,none⟩=some (.slice none 0 0):=by rw [p1];simp [go_sem]
 have x2:w2.cell? ⟨w.heap.size+1,2,none⟩=some (.bool false):=by rw [p1];simp [go_sem]
 have x3:w2.cell? ⟨w.heap.size+1,3,none⟩=some (.slice none 0 0):=by rw [p1];simp [go_sem]
 refine bodyPost_ret (v:=.agg #[.bool s1,.slice a1 n1 c1,.bool s2,.slice a2 n2 c2]) (by simp [results,Tryz.results97,go_sem,x0,x1,x2,x3,p2]) rfl ?_
 refine⟨_,rfl,?_,?_⟩
 ·refine RatIs.store4 (RatIs.mk ?_ ?_) _ _ _ _ x0 x1 x2 x3 (noInt_bool _) (noInt_slice _ _ _) (noInt_bool _) (noInt_slice _ _ _)
  ·rw [Rat.num_intCast];exact ((H1.out.mono HB.out (Nat.le_refl _)).drawn (Drawn.of _ 1)).mono hb2 (Nat.le_refl _)
  ·rw [Rat.den_intCast];exact H2.out.le hk
 ·have h0:=HB.out.drew.trans (hb2.mono (by simp;omega))
  exact (((h0.setCell (by simp) _).setCell (by simp) _).setCell (by simp) _).setCell (by simp) _
set_option maxHeartbeats 1000000 in
theorem rat_sign (x:Value) (q:Rat) (k:Nat) (w:World) (hx:RatIs w x q k) :
  Calls Tryz.prog 109 #[x] w fun e w'=>e = .returned (.int .i64 (sgnZ q.num))∧Below w.heap.size w w':=by
 obtain⟨s1,a1,n1,c1,a2,n2,c2,rfl,H1⟩:=hx.shape
 clear hx
 have HB:Hid (Below w.heap.size w (w.alloc (Obj.cells #[.bool s1,.slice a1 n1 c1,.bool false,.slice a2 n2 c2] 92))):=boxes1 w _
 go_enter Tryz.func109,Tryz.ntmps109
 go_wp2_with (first
  | (go_at_call 131;(with_reducible refine (int_sign _ q.num k _ (RatIs.num (H1.out.mono HB.out (Nat.le_refl _)))).mono ?_);rintro e w1 ⟨rfl,hb1⟩))
 refine bodyPost_ret (v:=.int .i64 (sgnZ q.num)) (by simp [results,Tryz.results109,go_sem]) rfl ?_
 exact⟨rfl,HB.out.trans (hb1.mono (by simp))⟩
set_option maxHeartbeats 1000000 in
theorem rat_neg (x:Value) (q:Rat) (k:Nat) (w:World) (hx:RatIs w x q k) :
  Calls Tryz.prog 87 #[x] w fun e w'=>∃ r,e = .returned r∧RatIs w' r (-q) k∧Below w.heap.size w w':=by
 obtain⟨s1,a1,n1,c1,a2,n2,c2,rfl,H1⟩:=hx.shape
 clear hx
 have HB:Hid (Below w.heap.size w ((w.alloc (Obj.cells #[.bool s1,.slice a1 n1 c1,.bool false,.slice a2 n2 c2] 92)).alloc (Obj.cells #[.bool false,.slice none 0 0,.bool false,.slice none 0 0] 92))):=boxes2 w _ _
 go_enter Tryz.func87,Tryz.ntmps87
 go_wp2
 go_region_held3 (fun w'=>w'.cell? ⟨w.heap.size,0,none⟩=some (.bool s1)∧w'.cell? ⟨w.heap.size,1,none⟩=some (.slice a1 n1 c1)∧w'.cell? ⟨w.heap.size,2,none⟩=some (.bool false)∧w'.cell? ⟨w.heap.size,3,none⟩=some (.slice a2 n2 c2)) (go_keep)
  (first
  | (go_at_call 123;(with_reducible refine (int_neg _ q.num k _ (RatIs.num (H1.out.mono HB.out (Nat.le_refl _))).drew).mono ?_);rintro e w2 ⟨r2,rfl,hr2,hb2⟩;obtain⟨s3,a3,n3,c3,rfl,H2⟩:=hr2.shape;clear hr2;obtain⟨p1,p2⟩:=kept1 hb2 (w.heap.size+1) (by simp);obtain⟨p3,p4⟩:=kept1 hb2 w.heap.size (by simp;omega)))
 go_wp2
 have x0:w2.cell? ⟨w.heap.size+1,0,none⟩=some (.bool false):=by rw [p1];simp [go_sem]
 have x1:w2.cell? ⟨w.heap.size+1,1,none⟩=some (.slice none 0 0):=by rw [p1];simp [go_sem]
 have x2:w2.cell? ⟨w.heap.size+1,2,none⟩=some (.bool false):=by rw [p1];simp [go_sem]
 have x3:w2.cell? ⟨w.heap.size+1,3,none⟩=some (.slice none 0 0):=by rw [p1];simp [go_sem]
 refine bodyPost_ret (v:=.agg #[.bool s3,.slice a3 n3 c3,.bool false,.slice a2 n2 c2]) (by simp [results,Tryz.results87,go_sem,x0,x1,x2,x3,p2]) rfl ?_
 refine⟨_,rfl,?_,?_⟩
 ·refine RatIs.store4 (RatIs.mk ?_ ?_) _ _ _ _ x0 x1 x2 x3 (noInt_bool _) (noInt_slice _ _ _) (noInt_bool _) (noInt_slice _ _ _)
  ·rw [Rat.neg_num];exact H2.out
  ·rw [Rat.neg_den];exact ((RatIs.den (H1.out.mono HB.out (Nat.le_refl _))).drawn (Drawn.of _ 1)).mono hb2 (Nat.le_refl _)
 ·have h0:=HB.out.drew.trans (hb2.mono (by simp;omega))
  exact (((h0.setCell (by simp) _).setCell (by simp) _).setCell (by simp) _).setCell (by simp) _
end Go.Proofs.YtgmopcncbpdniaaGreat
namespace Go.Proofs.YtgmopcncbpdniaaGreat
open Go.RowKit
attribute [local go_sem ↓] Go.wp_at_zero Go.wp_at_succ
theorem nl_one:nl 1=1:=by decide
theorem rat_integer (x:Value) (q:Rat) (k:Nat) (w:World) (b:Bool) (hb:decide (q.den=1)=b) (hx:RatIs w x q k) :
  Calls Tryz.prog 96 #[x] w fun e w'=>e = .returned (.bool b)∧Below w.heap.size w w':=by
 obtain⟨u,d,rfl,⟨a1,b1,o1,c1,rfl,i1⟩,⟨a2,b2,o2,c2,rfl,i2⟩,h3,h4⟩:=hx
 have HB:=Lib.hid (fun (s:Bool) (n2:Nat)=>boxes1 w (Obj.cells #[.bool s,.slice a1 (nl q.num.natAbs) c1,.bool false,.slice a2 n2 c2] 92))
 generalize decide (q.num<0)=s at *
 have hnum:=nl_one
 by_cases h1:nl q.den=1
 ·have ha:=i2.at_ (by omega)
  subst ha
  have hc:=i2.cell 0 (by omega)
  have hlt:=i2.lt (by omega)
  simp only [Nat.add_zero,lc] at hc
  have hv:=valF_nl q.den
  rw [h1] at hv ⊢
  simp only [valF,Nat.zero_add,Nat.pow_zero,Nat.mul_one] at hv
  have HV:=Lib.hid hv
  have HH:=Lib.hid hb
  clear hv hb h1 i1 i2 h3 h4 hnum
  cases b with
  | true=>
   have e1:q.den=1:=by simpa using HH.out
   have hd:(((dig q.den 0:Nat):Int) == 1)=true:=by rw [HV.out,e1];rfl
   have HE:=Lib.hid e1
   clear e1
   generalize dig q.den 0=D at *
   go_enter Tryz.func96,Tryz.ntmps96
   go_wp2
   go_ret
   exact⟨rfl,HB.out _ _⟩
  | false=>
   have e1:q.den≠1:=by simpa using HH.out
   have hd:(((dig q.den 0:Nat):Int) == 1)=false:=by rw [HV.out];simp;omega
   have HE:=Lib.hid e1
   clear e1
   generalize dig q.den 0=D at *
   go_enter Tryz.func96,Tryz.ntmps96
   go_wp2
   go_ret
   exact⟨rfl,HB.out _ _⟩
 ·obtain rfl:b=false:=by
   rw [←hb];simp;intro h;rw [h] at h1;exact h1 hnum
  have hn:(((nl q.den:Nat):Int) == 1)=false:=by simp;omega
  clear h1 i1 i2 h3 h4 hnum hb
  go_enter Tryz.func96,Tryz.ntmps96
  go_wp2
  go_ret
  exact⟨rfl,HB.out _ _⟩
end Go.Proofs.YtgmopcncbpdniaaGreat
namespace Go.Proofs.YtgmopcncbpdniaaGreat
open Go.RowKit
attribute [local go_sem ↓] Go.wp_at_zero Go.wp_at_succ
theorem IntIs.shapeN {w:World} {v:Value} {d m:Nat} (h:IntIs w v (d:Int) m):∃ a n c,v = .agg #[.bool false,.slice a n c]∧Hid (IntIs w (.agg #[.bool false,.slice a n c]) (d:Int) m):=by
 have h0:=h
 obtain⟨u,rfl,⟨a,b,o,c,rfl,hs⟩,h2⟩:=h
 have e:decide ((d:Int)<0)=false:=by simp
 rw [e] at h0 ⊢
 exact⟨a,_,c,rfl,h0⟩
theorem sgnZ_one (G:Nat) (h:G=1):(sgnZ ((G:Int) - 1) == 0)=true:=by subst h;rfl
theorem sgnZ_other (G:Nat) (h:G≠1):(sgnZ ((G:Int) - 1) == 0)=false:=by
 unfold sgnZ
 rw [if_neg (by omega)]
 split <;> rfl
theorem RatIs.into {w:World} {v:Value} {q:Rat} {m b:Nat} (h:RatIs w v q m) (u0 u1 u2 u3:Value) (ho:Own4 w b (.bool false) (.slice none 0 0) (.bool false) (.slice none 0 0)) :
  RatIs ((((w.setCell ⟨b,0,none⟩ u0).setCell ⟨b,1,none⟩ u1).setCell ⟨b,2,none⟩ u2).setCell ⟨b,3,none⟩ u3) v q m:=
 h.store4 u0 u1 u2 u3 ho.c0 ho.c1 ho.c2 ho.c3 (noInt_bool _) (noInt_slice _ _ _) (noInt_bool _) (noInt_slice _ _ _)
theorem below_set4 {B:Nat} {w0 w:World} {b:Nat} (h:Below B w0 w) (hB:B≤b) (u0 u1 u2 u3:Value) :
  Below B w0 ((((w.setCell ⟨b,0,none⟩ u0).setCell ⟨b,1,none⟩ u1).setCell ⟨b,2,none⟩ u2).setCell ⟨b,3,none⟩ u3):=
 (((h.setCell hB _).setCell hB _).setCell hB _).setCell hB _
set_option maxHeartbeats 2000000 in
theorem ratio_one (x y:Value) (p:Int) (d:Nat) (k:Nat) (w:World) (hx:IntIs w x p k) (hy:IntIs w y (d:Int) k) (hd:0<d) (hk2:2≤k) (hk:k≤549755813888) (h1:Nat.gcd p.natAbs d=1) :
  Calls Tryz.prog 99 #[x,y] w fun e w'=>∃ r,e = .returned r∧RatIs w' r (mkRat p d) k∧Below w.heap.size w w':=by
 obtain⟨s1,a1,n1,c1,rfl,H1⟩:=hx.shape
 obtain⟨a2,n2,c2,rfl,H2⟩:=hy.shapeN
 obtain⟨G,hG⟩:∃ G,G=Int.gcd p (d:Int):=⟨_,rfl⟩
 have hsg:=sgnZ_one G (by rw [hG];exact h1)
 have HG:=Lib.hid hG
 have H11:=Lib.hid h1
 clear hG h1 hx hy
 have O1:Hid (Own2 (((w.alloc (Obj.cells #[Value.bool s1,Value.slice a1 n1 c1] 90)).alloc (Obj.cells #[Value.bool false,Value.slice a2 n2 c2] 90)).alloc (Obj.cells #[.bool false,.slice none 0 0,.bool false,.slice none 0 0] 92)) w.heap.size (.bool s1) (.slice a1 n1 c1)):=((own2_new _ _ rfl _ _ _).alloc _).alloc _
 have O2:Hid (Own2 (((w.alloc (Obj.cells #[Value.bool s1,Value.slice a1 n1 c1] 90)).alloc (Obj.cells #[Value.bool false,Value.slice a2 n2 c2] 90)).alloc (Obj.cells #[.bool false,.slice none 0 0,.bool false,.slice none 0 0] 92)) (w.heap.size+1) (.bool false) (.slice a2 n2 c2)):=(own2_new _ _ (by simp) _ _ _).alloc _
 have O3:Hid (Own4 (((w.alloc (Obj.cells #[Value.bool s1,Value.slice a1 n1 c1] 90)).alloc (Obj.cells #[Value.bool false,Value.slice a2 n2 c2] 90)).alloc (Obj.cells #[.bool false,.slice none 0 0,.bool false,.slice none 0 0] 92)) (w.heap.size+1+1) (.bool false) (.slice none 0 0) (.bool false) (.slice none 0 0)):=own4_new _ _ (by simp) _ _ _ _ _
 have HB:Hid (Below w.heap.size w (((w.alloc (Obj.cells #[Value.bool s1,Value.slice a1 n1 c1] 90)).alloc (Obj.cells #[Value.bool false,Value.slice a2 n2 c2] 90)).alloc (Obj.cells #[.bool false,.slice none 0 0,.bool false,.slice none 0 0] 92))):=boxes3 w _ _ _
 go_enter Tryz.func99,Tryz.ntmps99
 go_wp2_with (first
  | (go_at_call 107;(with_reducible refine (int_gcd _ _ p (d:Int) k _ (H1.out.mono HB.out (Nat.le_refl _)) (H2.out.mono HB.out (Nat.le_refl _)) hk).mono ?_);rintro e w1 ⟨r,rfl,hr,hb1⟩;rw [←HG.out] at hr;obtain⟨a3,n3,c3,rfl,H3⟩:=hr.shapeN;clear hr;have P1:=Lib.hid (O1.out.below hb1 O1.out.lt);have P2:=Lib.hid (O2.out.below hb1 O2.out.lt);have P3:=Lib.hid (O3.out.below hb1 O3.out.lt);obtain⟨x10,x11,_,_⟩:=P1.out;obtain⟨x20,x21,_,xl2⟩:=P2.out;obtain⟨_,_,_,_,_,xl3⟩:=P3.out;have HB1:=Lib.hid (HB.out.trans (hb1.mono (by simp;omega)));clear hb1))
 have HA1:Hid (Below w1.heap.size w1 (w1.alloc (Obj.cells #[Value.bool false,Value.slice a3 n3 c3] 90))):=boxes1 w1 _
 have O4:Hid (Own2 (w1.alloc (Obj.cells #[Value.bool false,Value.slice a3 n3 c3] 90)) w1.heap.size (.bool false) (.slice a3 n3 c3)):=own2_new _ _ rfl _ _ _
 go_region_held3 (fun w'=>w'.cell? ⟨w1.heap.size,0,none⟩=some (.bool false)∧w'.cell? ⟨w1.heap.size,1,none⟩=some (.slice a3 n3 c3)) (go_keep)
  (first
  | (go_at_call 94;(with_reducible refine (int_of 1 (by omega) (by omega) _).mono ?_);rintro e w2 ⟨r2,rfl,hr2,hb2⟩;obtain⟨s4,a4,n4,c4,rfl,H4⟩:=hr2.shape;clear hr2;have Q4:=Lib.hid (O4.out.drew.below hb2 O4.out.drew.lt);obtain⟨_,_,_,zl4⟩:=Q4.out;obtain⟨p1,p2⟩:=kept1 hb2 w1.heap.size (by simp);have HB2:=Lib.hid (HA1.out.drew.trans (hb2.mono (by simp))))
  | (go_at_call 101;(with_reducible refine (int_cmp _ _ (G:Int) 1 k _ (H3.out.mono HB2.out (Nat.le_refl _)) (H4.out.le hk2) hk).mono ?_);rintro e w3 ⟨rfl,hb3⟩;obtain⟨r1,r2⟩:=kept1 hb3 w1.heap.size (by omega);have HB3:=Lib.hid (HB2.out.trans (hb3.mono (by omega)));have R1:=Lib.hid (P1.out.below HB3.out P1.out.lt);have R2:=Lib.hid (P2.out.below HB3.out P2.out.lt);have R3:=Lib.hid (P3.out.below HB3.out P3.out.lt);have R4:=Lib.hid (Q4.out.below hb3 zl4);obtain⟨y10,y11,_,yl1⟩:=R1.out;obtain⟨y20,y21,_,yl2⟩:=R2.out;obtain⟨y30,y31,y32,y33,yf3,yl3⟩:=R3.out;obtain⟨y40,y41,_,yl4⟩:=R4.out;have HB4:=Lib.hid (HB1.out.trans (HB3.out.mono (by omega)))))
 clear p1 p2 r1 r2
 go_wp2
 refine bodyPost_ret (v:=.agg #[.bool s1,.slice a1 n1 c1,.bool false,.slice a2 n2 c2]) (by simp [results,Tryz.results99,go_sem,y30,y31,y32,y33,yf3]) rfl ?_
 refine⟨_,rfl,RatIs.into (RatIs.mk ?_ ?_) _ _ _ _ R3.out,below_set4 HB4.out (by omega) _ _ _ _⟩
 ·rw [Rat.num_mkRat,if_neg (by omega),Nat.gcd_comm,H11.out]
  simp only [Int.natCast_one,Int.ediv_one]
  exact (H1.out.mono HB1.out (Nat.le_refl _)).mono HB3.out (Nat.le_refl _)
 ·rw [Rat.den_mkRat,if_neg (by omega),Nat.gcd_comm,H11.out,Nat.div_one]
  exact (H2.out.mono HB1.out (Nat.le_refl _)).mono HB3.out (Nat.le_refl _)
set_option maxHeartbeats 4000000 in
theorem ratio_other (x y:Value) (p:Int) (d:Nat) (k:Nat) (w:World) (hx:IntIs w x p k) (hy:IntIs w y (d:Int) k) (hd:0<d) (hk2:2≤k) (hk:k≤549755813888) (h1:¬ Nat.gcd p.natAbs d=1) :
  Calls Tryz.prog 99 #[x,y] w fun e w'=>∃ r,e = .returned r∧RatIs w' r (mkRat p d) k∧Below w.heap.size w w':=by
 obtain⟨s1,a1,n1,c1,rfl,H1⟩:=hx.shape
 obtain⟨a2,n2,c2,rfl,H2⟩:=hy.shapeN
 obtain⟨G,hG⟩:∃ G,G=Int.gcd p (d:Int):=⟨_,rfl⟩
 have hGe:G=Nat.gcd p.natAbs d:=hG
 have hsg:=sgnZ_other G (by rw [hGe];exact h1)
 have hGp:0<G:=by rw [hGe];exact Nat.gcd_pos_of_pos_right _ hd
 have hGd1:G ∣ p.natAbs:=by rw [hGe];exact Nat.gcd_dvd_left _ _
 have hGd2:G ∣ ((d:Nat):Int).natAbs:=by rw [hGe];exact Nat.gcd_dvd_right _ _
 have HE:=Lib.hid hGe
 have D1:=Lib.hid hGd1
 have D2:=Lib.hid hGd2
 clear hGe hGd1 hGd2
 have HG:=Lib.hid hG
 have H11:=Lib.hid h1
 clear hG h1 hx hy
 have O1:Hid (Own2 (((w.alloc (Obj.cells #[Value.bool s1,Value.slice a1 n1 c1] 90)).alloc (Obj.cells #[Value.bool false,Value.slice a2 n2 c2] 90)).alloc (Obj.cells #[.bool false,.slice none 0 0,.bool false,.slice none 0 0] 92)) w.heap.size (.bool s1) (.slice a1 n1 c1)):=((own2_new _ _ rfl _ _ _).alloc _).alloc _
 have O2:Hid (Own2 (((w.alloc (Obj.cells #[Value.bool s1,Value.slice a1 n1 c1] 90)).alloc (Obj.cells #[Value.bool false,Value.slice a2 n2 c2] 90)).alloc (Obj.cells #[.bool false,.slice none 0 0,.bool false,.slice none 0 0] 92)) (w.heap.size+1) (.bool false) (.slice a2 n2 c2)):=(own2_new _ _ (by simp) _ _ _).alloc _
 have O3:Hid (Own4 (((w.alloc (Obj.cells #[Value.bool s1,Value.slice a1 n1 c1] 90)).alloc (Obj.cells #[Value.bool false,Value.slice a2 n2 c2] 90)).alloc (Obj.cells #[.bool false,.slice none 0 0,.bool false,.slice none 0 0] 92)) (w.heap.size+1+1) (.bool false) (.slice none 0 0) (.bool false) (.slice none 0 0)):=own4_new _ _ (by simp) _ _ _ _ _
 have HB:Hid (Below w.heap.size w (((w.alloc (Obj.cells #[Value.bool s1,Value.slice a1 n1 c1] 90)).alloc (Obj.cells #[Value.bool false,Value.slice a2 n2 c2] 90)).alloc (Obj.cells #[.bool false,.slice none 0 0,.bool false,.slice none 0 0] 92))):=boxes3 w _ _ _
 go_enter Tryz.func99,Tryz.ntmps99
 go_wp2_with (first
  | (go_at_call 107;(with_reducible refine (int_gcd _ _ p (d:Int) k _ (H1.out.mono HB.out (Nat.le_refl _)) (H2.out.mono HB.out (Nat.le_refl _)) hk).mono ?_);rintro e w1 ⟨r,rfl,hr,hb1⟩;rw [←HG.out] at hr;obtain⟨a3,n3,c3,rfl,H3⟩:=hr.shapeN;clear hr;have P1:=Lib.hid (O1.out.below hb1 O1.out.lt);have P2:=Lib.hid (O2.out.below hb1 O2.out.lt);have P3:=Lib.hid (O3.out.below hb1 O3.out.lt);obtain⟨x10,x11,_,_⟩:=P1.out;obtain⟨x20,x21,_,xl2⟩:=P2.out;obtain⟨_,_,_,_,_,xl3⟩:=P3.out;have HB1:=Lib.hid (HB.out.trans (hb1.mono (by simp;omega)));clear hb1))
 have HA1:Hid (Below w1.heap.size w1 (w1.alloc (Obj.cells #[Value.bool false,Value.slice a3 n3 c3] 90))):=boxes1 w1 _
 have O4:Hid (Own2 (w1.alloc (Obj.cells #[Value.bool false,Value.slice a3 n3 c3] 90)) w1.heap.size (.bool false) (.slice a3 n3 c3)):=own2_new _ _ rfl _ _ _
 go_region_held3 (fun w'=>w'.cell? ⟨w1.heap.size,0,none⟩=some (.bool false)∧w'.cell? ⟨w1.heap.size,1,none⟩=some (.slice a3 n3 c3)) (go_keep)
  (first
  | (go_at_call 94;(with_reducible refine (int_of 1 (by omega) (by omega) _).mono ?_);rintro e w2 ⟨r2,rfl,hr2,hb2⟩;obtain⟨s4,a4,n4,c4,rfl,H4⟩:=hr2.shape;clear hr2;have Q4:=Lib.hid (O4.out.drew.below hb2 O4.out.drew.lt);obtain⟨_,_,_,zl4⟩:=Q4.out;obtain⟨p1,p2⟩:=kept1 hb2 w1.heap.size (by simp);have HB2:=Lib.hid (HA1.out.drew.trans (hb2.mono (by simp))))
  | (go_at_call 101;(with_reducible refine (int_cmp _ _ (G:Int) 1 k _ (H3.out.mono HB2.out (Nat.le_refl _)) (H4.out.le hk2) hk).mono ?_);rintro e w3 ⟨rfl,hb3⟩;obtain⟨r1,r2⟩:=kept1 hb3 w1.heap.size (by omega);have HB3:=Lib.hid (HB2.out.trans (hb3.mono (by omega)));have R1:=Lib.hid (P1.out.below HB3.out P1.out.lt);have R2:=Lib.hid (P2.out.below HB3.out P2.out.lt);have R3:=Lib.hid (P3.out.below HB3.out P3.out.lt);have R4:=Lib.hid (Q4.out.below hb3 zl4);obtain⟨y10,y11,_,yl1⟩:=R1.out;obtain⟨y20,y21,_,yl2⟩:=R2.out;obtain⟨y30,y31,y32,y33,yf3,yl3⟩:=R3.out;obtain⟨y40,y41,_,yl4⟩:=R4.out;have HB4:=Lib.hid (HB1.out.trans (HB3.out.mono (by omega)))))
 clear p1 p2 r1 r2
 have HP1:=Lib.hid ((H1.out.mono HB1.out (Nat.le_refl _)).mono HB3.out (Nat.le_refl _))
 have HP2:=Lib.hid ((H2.out.mono HB1.out (Nat.le_refl _)).mono HB3.out (Nat.le_refl _))
 have HP3:=Lib.hid (H3.out.mono HB3.out (Nat.le_refl _))
 clear H1 H2 H3 H4 HB1 HB2 HB3 HB P1 P2 P3 O1 O2 O3 O4 Q4 HA1 HG H11 hsg
 go_wp2_with (first
  | (go_at_call 128;(with_reducible refine (quo_exact _ _ p G k _ HP1.out HP3.out hGp D1.out hk).mono ?_);rintro e w4 ⟨r4,r4',rfl,hr4,hr4',hb4⟩;obtain⟨s5,a5,n5,c5,rfl,H5⟩:=hr4.shape;clear hr4;obtain⟨s6,a6,n6,c6,rfl,H6⟩:=hr4'.shape;clear hr4';have S2:=Lib.hid (R2.out.below hb4 yl2);have S3:=Lib.hid (R3.out.below hb4 yl3);have S4:=Lib.hid (R4.out.below hb4 yl4);obtain⟨z20,z21,_,zl2⟩:=S2.out;obtain⟨z40,z41,_,zl4⟩:=S4.out;obtain⟨_,_,_,_,_,zl3⟩:=S3.out;have ne1:¬ (w.heap.size=w4.heap.size):=(by omega);have ne2:¬ (w1.heap.size=w4.heap.size+1):=(by omega);have ne3:¬ (w.heap.size+1=w4.heap.size):=(by omega);have ne4:¬ (w1.heap.size=w4.heap.size):=(by omega);have HS2:=Lib.hid (HP2.out.mono hb4 (Nat.le_refl _));have HS3:=Lib.hid (HP3.out.mono hb4 (Nat.le_refl _));have HB5:=Lib.hid (HB4.out.trans (hb4.mono (by omega)));have HA4:=Lib.hid (boxes2 w4 (Obj.cells #[.bool s5,.slice a5 n5 c5] 90) (Obj.cells #[.bool s6,.slice a6 n6 c6] 90));have U2:=Lib.hid (S2.out.below HA4.out zl2);obtain⟨v20,v21,_,_⟩:=U2.out;have U4:=Lib.hid (S4.out.below HA4.out zl4);obtain⟨v40,v41,_,_⟩:=U4.out;have T1:=Lib.hid ((own2_new w4 _ rfl (.bool s5) (.slice a5 n5 c5) 90).alloc (Obj.cells #[.bool s6,.slice a6 n6 c6] 90));clear hb4)
  | (go_at_call 128;(with_reducible refine (quo_exact _ _ (d:Int) G k _ (HS2.out.mono HA4.out (Nat.le_refl _)) (HS3.out.mono HA4.out (Nat.le_refl _)) hGp D2.out hk).mono ?_);rintro e w5 ⟨r5,r5',rfl,hr5,hr5',hb5⟩;obtain⟨s7,a7,n7,c7,rfl,H7⟩:=hr5.shape;clear hr5;obtain⟨s8,a8,n8,c8,rfl,H8⟩:=hr5'.shape;clear hr5';have T3:=Lib.hid ((S3.out.below HA4.out zl3).below hb5 (by simp;omega));have T5:=Lib.hid (T1.out.below hb5 (by simp;omega));obtain⟨_,_,_,_,_,ul3⟩:=T3.out;obtain⟨_,_,_,ul5⟩:=T5.out;have HA5:=Lib.hid (boxes2 w5 (Obj.cells #[.bool s7,.slice a7 n7 c7] 90) (Obj.cells #[.bool s8,.slice a8 n8 c8] 90));have V3:=Lib.hid (T3.out.below HA5.out ul3);have V5:=Lib.hid (T5.out.below HA5.out ul5);obtain⟨u30,u31,u32,u33,uf3,_⟩:=V3.out;obtain⟨u50,u51,_,_⟩:=V5.out;have HB6:=Lib.hid (HB5.out.trans (((HA4.out.trans (hb5.mono (by simp;omega))).trans (HA5.out.mono (by have:=hb5.size;simp at this;omega))).mono (by omega)));have G5:=Lib.hid (((H5.out.mono HA4.out (Nat.le_refl _)).mono hb5 (Nat.le_refl _)).mono HA5.out (Nat.le_refl _));have G7:=Lib.hid (H7.out.mono HA5.out (Nat.le_refl _));clear hb5))
 refine bodyPost_ret (v:=.agg #[.bool s5,.slice a5 n5 c5,.bool s7,.slice a7 n7 c7]) (by simp [results,Tryz.results99,go_sem,u30,u31,u32,u33,uf3]) rfl ?_
 refine⟨_,rfl,RatIs.into (RatIs.mk ?_ ?_) _ _ _ _ V3.out,below_set4 HB6.out (by omega) _ _ _ _⟩
 ·rw [Rat.num_mkRat,if_neg (by omega),Nat.gcd_comm,←HE.out]
  exact G5.out
 ·rw [Rat.den_mkRat,if_neg (by omega),Nat.gcd_comm,←HE.out,Int.natCast_ediv]
  exact G7.out
end Go.Proofs.YtgmopcncbpdniaaGreat
