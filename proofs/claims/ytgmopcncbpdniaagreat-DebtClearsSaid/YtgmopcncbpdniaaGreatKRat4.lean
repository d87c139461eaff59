import Derived.Test.YtgmopcncbpdniaaGreatKShelf
import Derived.Test.YtgmopcncbpdniaaGreatKInt5
import Derived.Deep.DeepCutAuto
import Derived.Deep.CutBlock
import Derived.Test.YtgmopcncbpdniaaGreatKOwn
set_option maxHeartbeats 8000000
set_option linter.unusedVariables false
set_option linter.unusedSimpArgs false
namespace Go.Proofs.YtgmopcncbpdniaaGreat
open Go.RowKit
attribute [local go_sem ↓] Go.wp_at_zero Go.wp_at_succ
theorem kept1 {W w1:World} (hb:Below W.heap.size W w1) (b:Nat) (h:b<W.heap.size) :
  (∀ o,w1.cell? ⟨b,o,none⟩=W.cell? ⟨b,o,none⟩)/\(∀ o,w1.frozen? ⟨b,o,none⟩=W.frozen? ⟨b,o,none⟩):=
 ⟨fun o=>hb.cell (p:=⟨_,o,none⟩) h,fun o=>hb.frozen (p:=⟨_,o,none⟩) h⟩
theorem keep_al {w:World} {a:Addr} {v:Value} {o:Obj} (h:w.cell? a=some v):(w.alloc o).cell? a=some v:=(World.cell?_alloc_some w a o (by rw [h];rfl)).trans h
theorem keep_set {w:World} {p a:Addr} {v x:Value} (hb:p.block≠a.block) (h:w.cell? a=some v):(w.setCell p x).cell? a=some v:=(World.cell?_setCell_far w p a x hb).trans h
theorem keep_off {w:World} {b o b' o':Nat} {v x:Value} (hb:o'≠o) (h:w.cell? ⟨b',o',none⟩=some v):(w.setCell ⟨b,o,none⟩ x).cell? ⟨b',o',none⟩=some v:=
 (cell?_setCell_ne' w ⟨b,o,none⟩ ⟨b',o',none⟩ x (by intro e;injection e with _ e2;exact hb e2) rfl rfl).trans h
theorem keep_below {w w':World} {B:Nat} {a:Addr} {v:Value} (hb:Below B w w') (ha:a.block<B) (h:w.cell? a=some v):w'.cell? a=some v:=(hb.cell ha).trans h
theorem set_self {w:World} {a:Addr} {u v:Value} (h:w.cell? a=some u):(w.setCell a v).cell? a=some v:=by
 simp [go_sem,h]
theorem own0 {w:World} {b:Nat} {x y:Value} {t:TypeId} (hb:b=w.heap.size):(w.alloc (.cells #[x,y] t)).cell? ⟨b,0,none⟩=some x:=by subst hb;simp [go_sem]
theorem own1 {w:World} {b:Nat} {x y:Value} {t:TypeId} (hb:b=w.heap.size):(w.alloc (.cells #[x,y] t)).cell? ⟨b,1,none⟩=some y:=by subst hb;simp [go_sem]
theorem set0 {w:World} {b:Nat} {v:Value} (h:w.cell? ⟨b,0,none⟩=some (.bool false)):(w.setCell ⟨b,0,none⟩ v).cell? ⟨b,0,none⟩=some v:=set_self h
theorem set1 {w:World} {b:Nat} {v:Value} (h:w.cell? ⟨b,1,none⟩=some (.slice none 0 0)):(w.setCell ⟨b,1,none⟩ v).cell? ⟨b,1,none⟩=some v:=set_self h
theorem keep_drew {w:World} {a:Addr} {v:Value} (h:w.cell? a=some v):w.drew.cell? a=some v:=h
theorem sB {w1 W:World} {p q:Addr} {u v:Value} (x0:w1.cell? p=some u) (x1:w1.cell? q=some v) (k0:p.block<w1.heap.size) (k1:q.block<w1.heap.size) (hb:Below w1.heap.size w1 W) :
  W.cell? p=some u/\W.cell? q=some v/\Below w1.heap.size w1 W:=⟨(hb.cell k0).trans x0,(hb.cell k1).trans x1,hb⟩
theorem boxes4 (w:World) (a b c d:Obj):Below w.heap.size w ((((w.alloc a).alloc b).alloc c).alloc d):=
 (boxes3 w a b c).alloc (by first | omega | (simp;done) | (simp;omega)) _
theorem stores4 {w:World} {v:Value} {x b c:Nat} (h:Mag w v x) (u0 u1 u2 u3:Value) (hbc:b≠c) (f0:w.cell? ⟨b,0,none⟩=some (.bool false)) (f1:w.cell? ⟨b,1,none⟩=some (.slice none 0 0))
  (f4:w.cell? ⟨c,0,none⟩=some (.bool false)) (f5:w.cell? ⟨c,1,none⟩=some (.slice none 0 0)) :
  Mag ((((w.setCell ⟨b,0,none⟩ u0).setCell ⟨b,1,none⟩ u1).setCell ⟨c,0,none⟩ u2).setCell ⟨c,1,none⟩ u3) v x:=
 (h.store2 u0 u1 f0 f1 (noInt_bool _) (noInt_slice _ _ _)).store2 u2 u3 (keep_set hbc (keep_set hbc f4)) (keep_set hbc (keep_set hbc f5)) (noInt_bool _) (noInt_slice _ _ _)
theorem quo_exact (x y:Value) (p:Int) (g:Nat) (k:Nat) (w:World) (ha:IntIs w x p k) (hb:IntIs w y (g:Int) k) (hg:0<g) (hd:g ∣ p.natAbs) (hk:k<=549755813888) :
  Calls Tryz.prog 128 #[x,y] w fun e w'=>∃ r r2,e = .returned (.tuple #[r,r2])/\IntIs w' r (p / (g:Int)) k/\IntIs w' r2 0 k/\Below w.heap.size w w':=by
 obtain⟨u,rfl,hu,bu⟩:=ha;obtain⟨v,rfl,hv,bv⟩:=hb;rw [Int.natAbs_natCast] at hv bv;have HU:=jj hu;have HV:=jj hv;obtain⟨a1,b1,o1,c1,rfl,i1⟩:=hu;obtain⟨a2,b2,o2,c2,rfl,i2⟩:=hv;have e2:decide ((g:Int)<0)=false:=by simp
 rw [e2];clear e2;obtain⟨s1,hs1⟩:∃ s,s=decide (p<0):=⟨_,rfl⟩;rw [<-hs1];obtain⟨N,hN⟩:∃ N,N=p.natAbs:=⟨_,rfl⟩;rw [<-hN] at HU i1 hd bu ⊢;have hmod:N % g=0:=Nat.mod_eq_zero_of_dvd hd
 have hq:sgn s1 (N / g)=p / (g:Int):=by
  obtain⟨q,hq⟩:=hd;have hgz:(g:Int)≠0:=by omega
  rw [hq,Nat.mul_div_cancel_left _ hg,hs1];unfold sgn;have hpa:(p.natAbs:Int)=(g:Int)*(q:Int):=by rw [<-hN,hq,Int.natCast_mul]
  by_cases hp:p<0
  ·have:p=(g:Int)*(-(q:Int)):=by rw [Int.mul_neg];omega
   simp only [hp,decide_true,if_true];rw [this,Int.mul_ediv_cancel_left _ hgz]
  ·have:p=(g:Int)*(q:Int):=by omega
   simp only [hp,decide_false,Bool.false_eq_true,if_false];rw [this,Int.mul_ediv_cancel_left _ hgz]
 have HQ:=jj hq;have HM:=jj hmod;clear hq hmod hs1 hN hd i1 i2;have HB:Hid (Below w.heap.size w ((((w.alloc (Obj.cells #[Value.bool s1,Value.slice a1 (nl N) c1] 90)).alloc (Obj.cells #[Value.bool false,Value.slice a2 (nl g) c2] 90)).alloc (Obj.cells #[.bool false,.slice none 0 0] 90)).alloc (Obj.cells #[.bool false,.slice none 0 0] 90))):=boxes4 w _ _ _ _;go_enter Tryz.func128,Tryz.ntmps128
 go_upto_region 2 with (go_at_call 134;refine (part_any _ _ N g _ (HU.out.mono HB.out jl) (HV.out.mono HB.out jl) hg (by omega) (by omega)).mono ?_;rintro e w1 ⟨qv,rv,rfl,hqv,hrv,hb1⟩;obtain⟨q1,q2,q3,q4,q5,q6,hz1,HB1⟩:=kept3 (w:=w) hb1 (by simp) HB.out;obtain⟨q7,q8⟩:=kept1 hb1 (w.heap.size+1+1+1) (by simp);have hz4:w.heap.size+4<=w1.heap.size:=(by have:=hb1.size;simpa using this);have k0:w.heap.size<w1.heap.size:=(by omega);have k1:w.heap.size+1<w1.heap.size:=(by omega);have k2:w.heap.size+1+1<w1.heap.size:=(by omega);have k3:w.heap.size+1+1+1<w1.heap.size:=(by omega))
 obtain⟨Q,hQ⟩:∃ Q,Q=N / g:=⟨_,rfl⟩;rw [<-hQ] at hqv HQ;have hQN:nl Q<=k:=Nat.le_trans (nl_mono (by rw [hQ];exact Nat.div_le_self _ _)) bu;clear hQ;have HQV:=jj hqv;have HRV:=jj hrv;rw [HM.out] at HRV;obtain⟨a3,b3,o3,c3,rfl,i3⟩:=hqv;rw [HM.out] at hrv;obtain⟨a4,b4,o4,c4,rfl,i4⟩:=hrv;clear i3 i4;have e0:nl 0=0:=nl_zero;rw [e0] at HRV ⊢;have x0:w1.cell? ⟨w.heap.size,0,none⟩=some (.bool s1):=by rw [q1];simp [go_sem]
 have x1:w1.cell? ⟨w.heap.size+1,0,none⟩=some (.bool false):=by rw [q2];simp [go_sem]
 have hB0:Below w1.heap.size w1 w1.drew:=(Below.refl _ _).drew
 go_cut [8,9] (fun v8 v9 wx=>∃ b8 b9:Nat,v8 = .pointer (some ⟨b8,0,none⟩)/\v9 = .pointer (some ⟨b9,0,none⟩)/\wx.cell? ⟨b8,0,none⟩=some (.bool (s1 && decide (0<Q)))/\wx.cell? ⟨b8,1,none⟩=some (.slice a3 (nl Q) c3)/\
   wx.cell? ⟨b9,0,none⟩=some (.bool false)/\wx.cell? ⟨b9,1,none⟩=some (.slice a4 0 c4)/\
   w1.heap.size<=b8/\w1.heap.size<=b9/\Below w1.heap.size w1 wx)
 case first=>
  clear HU HV
  go_region_held3 (fun w'=>w'.cell? ⟨w.heap.size,0,none⟩=some (.bool s1)/\w'.cell? ⟨w.heap.size+1,0,none⟩=some (.bool false)/\Below w1.heap.size w1 w') ((go_split_ands;refine sB x0 x1 k0 k1 ?_;repeat (first | assumption | exact Below.refl _ _ | refine Below.drew ?_ | refine Below.alloc ?_ (by first | omega | (exact Below.size (B:=w1.heap.size) (by assumption)) | (simp;done) | (simp;omega)) _ | refine Below.setCell ?_ (by (dsimp only;(first | omega | (simp;omega)))) _ | refine Below.trans ?_ (Below.mono (by assumption) (Below.size (B:=w1.heap.size) (by assumption))))))
   (first
    | (go_at_call 106;(with_reducible refine (made_any (.slice a3 (nl Q) c3) s1 Q _ (Mag.mono HQV.out (by go_split_ands;assumption) jl)).mono ?_);rintro e w2 ⟨rfl,hm2,hb2⟩;clear hm2;have hw2:Below w1.heap.size w1 w2:=(by go_split_ands;exact Below.trans (by assumption) (Below.mono hb2 (Below.size (B:=w1.heap.size) (w:=w1) (by assumption))));have hz2:=hw2.size;have hy2:=hb2.size;(try simp only [World.size_alloc,World.size_drew,World.size_setCell] at hy2);(try have v1:w1.heap.size<w2.heap.size:=(by omega));(try have v2:w1.heap.size+1<w2.heap.size:=(by omega));(try have r1:=(kept1 hb2 (w1.heap.size) (by first | omega | (simp;done) | (simp;omega))).1);(try have r2:=(kept1 hb2 (w1.heap.size) (by first | omega | (simp;done) | (simp;omega))).2);(try have r3:=(kept1 hb2 (w1.heap.size+1) (by first | omega | (simp;done) | (simp;omega))).1);(try have r4:=(kept1 hb2 (w1.heap.size+1) (by first | omega | (simp;done) | (simp;omega))).2))
    | (go_at_call 106;(with_reducible refine (made_any (.slice a4 0 c4) s1 0 _ (Mag.mono HRV.out (by go_split_ands;assumption) jl)).mono ?_);rintro e w3 ⟨rfl,hm3,hb3⟩;clear hm3;have hw3:Below w1.heap.size w1 w3:=(by go_split_ands;exact Below.trans (by assumption) (Below.mono hb3 (Below.size (B:=w1.heap.size) (w:=w1) (by assumption))));have hz3:=hw3.size;have hy3:=hb3.size;(try simp only [World.size_alloc,World.size_drew,World.size_setCell] at hy3);(try have u1:w2.heap.size<w3.heap.size:=(by omega));(try have u2:w2.heap.size+1<w3.heap.size:=(by omega));(try have u3:w1.heap.size<w3.heap.size:=(by omega));(try have u4:w1.heap.size+1<w3.heap.size:=(by omega));(try have t1:=(kept1 hb3 (w2.heap.size) (by first | omega | (simp;done) | (simp;omega))).1);(try have t2:=(kept1 hb3 (w2.heap.size) (by first | omega | (simp;done) | (simp;omega))).2);(try have t3:=(kept1 hb3 (w2.heap.size+1) (by first | omega | (simp;done) | (simp;omega))).1);(try have t4:=(kept1 hb3 (w2.heap.size+1) (by first | omega | (simp;done) | (simp;omega))).2);(try have t5:=(kept1 hb3 (w1.heap.size) (by first | omega | (simp;done) | (simp;omega))).1);(try have t6:=(kept1 hb3 (w1.heap.size) (by first | omega | (simp;done) | (simp;omega))).2);(try have t7:=(kept1 hb3 (w1.heap.size+1) (by first | omega | (simp;done) | (simp;omega))).1);(try have t8:=(kept1 hb3 (w1.heap.size+1) (by first | omega | (simp;done) | (simp;omega))).2)))
  all_goals
   go_wp2_with fail;go_meet
   case rel=>
    go_split_ands
    refine⟨_,_,rfl,rfl,?_,?_,?_,?_,by first | omega | (simp;done) | (simp;omega),by first | omega | (simp;done) | (simp;omega),by assumption⟩ <;> (repeat (first | (with_reducible refine own0 ?_;(first | with_reducible rfl | (simp only [World.size_alloc,World.size_drew,World.size_setCell];done))) | (with_reducible refine own1 ?_;(first | with_reducible rfl | (simp only [World.size_alloc,World.size_drew,World.size_setCell];done))) | with_reducible refine keep_drew ?_ | with_reducible refine keep_al ?_ | (with_reducible refine keep_off ?_ ?_;(· decide)) | (with_reducible refine keep_set ?_ ?_;(· (dsimp only;omega))) | with_reducible refine set0 ?_ | with_reducible refine set1 ?_ | (with_reducible refine keep_below hb3 ?_ ?_;(· (first | (dsimp only;omega) | (simp only [World.size_alloc,World.size_drew,World.size_setCell];omega)))) | (with_reducible refine keep_below hb2 ?_ ?_;(· (first | (dsimp only;omega) | (simp only [World.size_alloc,World.size_drew,World.size_setCell];omega))))))
 case rest=>
  obtain⟨b8,b9,rfl,rfl,g1,g2,g3,g4,hb8,hb9,HBX⟩:=hcut;have f0:wc.cell? ⟨w.heap.size+1+1,0,none⟩=some (.bool false):=by rw [HBX.cell (by dsimp only;omega),q3];simp [go_sem]
  have f1:wc.cell? ⟨w.heap.size+1+1,1,none⟩=some (.slice none 0 0):=by rw [HBX.cell (by dsimp only;omega),q3];simp [go_sem]
  have f2:wc.frozen? ⟨w.heap.size+1+1,0,none⟩=false:=by rw [HBX.frozen (by dsimp only;omega),q6];simp [go_sem]
  have f3:wc.frozen? ⟨w.heap.size+1+1,1,none⟩=false:=by rw [HBX.frozen (by dsimp only;omega),q6];simp [go_sem]
  have f4:wc.cell? ⟨w.heap.size+1+1+1,0,none⟩=some (.bool false):=by rw [HBX.cell (by dsimp only;omega),q7];simp [go_sem]
  have f5:wc.cell? ⟨w.heap.size+1+1+1,1,none⟩=some (.slice none 0 0):=by rw [HBX.cell (by dsimp only;omega),q7];simp [go_sem]
  have f6:wc.frozen? ⟨w.heap.size+1+1+1,0,none⟩=false:=by rw [HBX.frozen (by dsimp only;omega),q8];simp [go_sem]
  have f7:wc.frozen? ⟨w.heap.size+1+1+1,1,none⟩=false:=by rw [HBX.frozen (by dsimp only;omega),q8];simp [go_sem]
  have M3:=jj (Mag.mono HQV.out HBX jl);have M4:=jj (Mag.mono HRV.out HBX jl);have HX:=jj (HB1.out.trans (HBX.mono (by omega)));clear q1 q2 q3 q4 q5 q6 q7 q8 HBX hb1;go_wp2
  go_region_held3 (fun w'=>w'.cell? ⟨b8,0,none⟩=some (.bool (s1 && decide (0<Q)))/\w'.cell? ⟨b8,1,none⟩=some (.slice a3 (nl Q) c3)/\w'.cell? ⟨b9,0,none⟩=some (.bool false)/\w'.cell? ⟨b9,1,none⟩=some (.slice a4 0 c4))
   ((go_split_ands;refine⟨?_,?_,?_,?_⟩ <;> (repeat (first | with_reducible assumption | with_reducible refine keep_drew ?_ | (with_reducible refine keep_set ?_ ?_;(· (dsimp only;omega))))))) (fail)
  all_goals go_wp2
  all_goals
   refine bodyPost_ret (v:=.tuple #[.agg #[.bool (s1 && decide (0<Q)),.slice a3 (nl Q) c3],.agg #[.bool false,.slice a4 0 c4]]) (by simp [results,Tryz.results128,go_sem,f0,f1,f2,f3,f4,f5,f6,f7]) rfl ?_;refine⟨_,_,rfl,?_,?_,?_⟩
  all_goals
   first
    | (refine IntIs.mk (s:=s1) (x:=Q) HQ.out.symm ?_ hQN)
    | (refine IntIs.mk (s:=false) (x:=0) (by simp [sgn]) ?_ (by rw [nl_zero];exact Nat.zero_le _))
    | (refine ((((HX.out.setCell ?_ _).setCell ?_ _).setCell ?_ _).setCell ?_ _).drew <;> (dsimp only;omega))
  all_goals
   first
    | (with_reducible refine Mag.drew ?_;with_reducible refine stores4 M3.out _ _ _ _ ?_ f0 f1 f4 f5;omega)
    | (with_reducible refine Mag.drew ?_;with_reducible refine stores4 M3.out _ _ _ _ ?_ f4 f5 f0 f1;omega)
    | (with_reducible refine Mag.drew ?_;with_reducible refine stores4 M4.out _ _ _ _ ?_ f0 f1 f4 f5;omega)
    | (with_reducible refine Mag.drew ?_;with_reducible refine stores4 M4.out _ _ _ _ ?_ f4 f5 f0 f1;omega)
theorem RatIs.shape {w:World} {v:Value} {q:Rat} {m:Nat} (h:RatIs w v q m):∃ s a n c a2 n2 c2,v = .agg #[.bool s,.slice a n c,.bool false,.slice a2 n2 c2]/\Hid (RatIs w (.agg #[.bool s,.slice a n c,.bool false,.slice a2 n2 c2]) q m):=by
 have h0:=h;obtain⟨u,d,rfl,⟨a,b,o,c,rfl,hs⟩,⟨a2,b2,o2,c2,rfl,hs2⟩,h2⟩:=h;exact⟨_,a,_,c,a2,_,c2,rfl,h0⟩
theorem RatIs.num {w:World} {s t:Bool} {u d:Value} {q:Rat} {m:Nat} (h:RatIs w (.agg #[.bool s,u,.bool t,d]) q m):IntIs w (.agg #[.bool s,u]) q.num m:=by
 obtain⟨u',d',e,hu,hd,b1,b2⟩:=h;injection e with e;injection e with e;injection e with e1 e;injection e with e2 e;injection e with e3 e;injection e with e4 e;subst e2;subst e4;exact⟨u,by rw [e1],hu,b1⟩
theorem RatIs.den {w:World} {s t:Bool} {u d:Value} {q:Rat} {m:Nat} (h:RatIs w (.agg #[.bool s,u,.bool t,d]) q m):IntIs w (.agg #[.bool t,d]) (q.den:Int) m:=by
 obtain⟨u',d',e,hu,hd,b1,b2⟩:=h;injection e with e;injection e with e;injection e with e1 e;injection e with e2 e;injection e with e3 e;injection e with e4 e;subst e2;subst e4;exact⟨d,by rw [e3];simp,by rw [Int.natAbs_natCast];exact hd,by rw [Int.natAbs_natCast];exact b2⟩
theorem RatIs.mk {w:World} {s t:Bool} {u d:Value} {q:Rat} {m:Nat} (h1:IntIs w (.agg #[.bool s,u]) q.num m) (h2:IntIs w (.agg #[.bool t,d]) (q.den:Int) m):RatIs w (.agg #[.bool s,u,.bool t,d]) q m:=by
 obtain⟨u',e,hu,b1⟩:=h1;obtain⟨d',e',hd,b2⟩:=h2;injection e with e;injection e with e;injection e with e1 e;injection e with e2 e;injection e' with e';injection e' with e';injection e' with e3 e';injection e' with e4 e';subst e2;subst e4;rw [Int.natAbs_natCast] at hd b2;exact⟨u,d,by rw [e1,e3];simp,hu,hd,b1,b2⟩
theorem RatIs.le {w:World} {v:Value} {q:Rat} {m n:Nat} (h:RatIs w v q m) (hmn:m<=n):RatIs w v q n:=by
 obtain⟨u,d,rfl,h1,h2,h3,h4⟩:=h;exact⟨u,d,rfl,h1,h2,Nat.le_trans h3 hmn,Nat.le_trans h4 hmn⟩
theorem RatIs.store4 {w:World} {v:Value} {q:Rat} {m b:Nat} (h:RatIs w v q m) (u0 u1 u2 u3:Value) {v0 v1 v2 v3:Value} (h0:w.cell? ⟨b,0,none⟩=some v0) (h1:w.cell? ⟨b,1,none⟩=some v1)
  (h2:w.cell? ⟨b,2,none⟩=some v2) (h3:w.cell? ⟨b,3,none⟩=some v3) (n0:NoInt v0) (n1:NoInt v1) (n2:NoInt v2) (n3:NoInt v3) :
  RatIs ((((w.setCell ⟨b,0,none⟩ u0).setCell ⟨b,1,none⟩ u1).setCell ⟨b,2,none⟩ u2).setCell ⟨b,3,none⟩ u3) v q m:=by
 obtain⟨u,d,rfl,m1,m2,m3⟩:=h;exact⟨u,d,rfl,m1.store4 u0 u1 u2 u3 h0 h1 h2 h3 n0 n1 n2 n3,m2.store4 u0 u1 u2 u3 h0 h1 h2 h3 n0 n1 n2 n3,m3⟩
theorem RatIs.drawn {w w':World} {v:Value} {q:Rat} {m:Nat} (h:RatIs w v q m) (hd:Drawn w w'):RatIs w' v q m:=h.mono (hd.below _) jl
theorem IntIs.drew {w:World} {v:Value} {z:Int} {m:Nat} (h:IntIs w v z m):IntIs w.drew v z m:=h.drawn (Drawn.of _ 1)
theorem RatIs.drew {w:World} {v:Value} {q:Rat} {m:Nat} (h:RatIs w v q m):RatIs w.drew v q m:=h.drawn (Drawn.of _ 1)
theorem rat_whole (n:Int) (h1 : -4611686018427387904<n) (h2:n<4611686018427387904) (w:World) :
  Calls Tryz.prog 59 #[.int .i64 n] w fun e w'=>∃ r,e = .returned r/\RatIs w' r (n:Rat) 2/\Below w.heap.size w w':=by
 have HB:Hid (Below w.heap.size w (w.alloc (Obj.cells #[.bool false,.slice none 0 0,.bool false,.slice none 0 0] 92))):=boxes1 w _;go_enter Tryz.func59,Tryz.ntmps59
 go_wp2_with (first
  | (go_at_call 94;(with_reducible refine (int_of n h1 h2 _).mono ?_);rintro e w1 ⟨r1,rfl,hr1,hb1⟩;obtain⟨s1,a1,n1,c1,rfl,H1⟩:=hr1.shape;clear hr1;obtain⟨q1,q2⟩:=kept1 hb1 w.heap.size (by simp))
  | (go_at_call 94;(with_reducible refine (int_of 1 (by omega) (by omega) _).mono ?_);rintro e w2 ⟨r2,rfl,hr2,hb2⟩;obtain⟨s2,a2,n2,c2,rfl,H2⟩:=hr2.shape;clear hr2;have hz1:=hb1.size;(try simp only [World.size_alloc] at hz1);obtain⟨p1,p2⟩:=kept1 hb2 w.heap.size (by omega)))
 have x0:w2.cell? ⟨w.heap.size,0,none⟩=some (.bool false):=by rw [p1,q1];simp [go_sem]
 have x1:w2.cell? ⟨w.heap.size,1,none⟩=some (.slice none 0 0):=by rw [p1,q1];simp [go_sem]
 have x2:w2.cell? ⟨w.heap.size,2,none⟩=some (.bool false):=by rw [p1,q1];simp [go_sem]
 have x3:w2.cell? ⟨w.heap.size,3,none⟩=some (.slice none 0 0):=by rw [p1,q1];simp [go_sem]
 refine bodyPost_ret (v:=.agg #[.bool s1,.slice a1 n1 c1,.bool s2,.slice a2 n2 c2]) (by simp [results,Tryz.results59,go_sem,x0,x1,x2,x3,p2,q2]) rfl ?_;refine⟨_,rfl,?_,?_⟩
 ·refine RatIs.store4 (RatIs.mk ?_ ?_) _ _ _ _ x0 x1 x2 x3 (noInt_bool _) (noInt_slice _ _ _) (noInt_bool _) (noInt_slice _ _ _)
  ·rw [Rat.num_intCast];exact H1.out.mono hb2 jl
  ·rw [Rat.den_intCast];exact H2.out
 ·have h0:=(HB.out.trans (hb1.mono (by simp))).trans (hb2.mono (by omega));exact (((h0.setCell jl _).setCell jl _).setCell jl _).setCell jl _
theorem rat_fromInt (x:Value) (n:Int) (k:Nat) (w:World) (hx:IntIs w x n k) (hk:2<=k) :
  Calls Tryz.prog 97 #[x] w fun e w'=>∃ r,e = .returned r/\RatIs w' r (n:Rat) k/\Below w.heap.size w w':=by
 obtain⟨s1,a1,n1,c1,rfl,H1⟩:=hx.shape;clear hx;have HB:Hid (Below w.heap.size w ((w.alloc (Obj.cells #[.bool s1,.slice a1 n1 c1] 90)).alloc (Obj.cells #[.bool false,.slice none 0 0,.bool false,.slice none 0 0] 92))):=boxes2 w _ _;go_enter Tryz.func97,Tryz.ntmps97;go_wp2
 go_region_held3 (fun w'=>w'.cell? ⟨w.heap.size,0,none⟩=some (.bool s1)/\w'.cell? ⟨w.heap.size,1,none⟩=some (.slice a1 n1 c1)) (go_keep)
  (first
  | (go_at_call 94;(with_reducible refine (int_of 1 (by omega) (by omega) _).mono ?_);rintro e w2 ⟨r2,rfl,hr2,hb2⟩;obtain⟨s2,a2,n2,c2,rfl,H2⟩:=hr2.shape;clear hr2;obtain⟨p1,p2⟩:=kept1 hb2 (w.heap.size+1) (by simp);obtain⟨p3,p4⟩:=kept1 hb2 w.heap.size (by simp;omega)))
 go_wp2;have x0:w2.cell? ⟨w.heap.size+1,0,none⟩=some (.bool false):=by rw [p1];simp [go_sem]
 have x1:w2.cell? ⟨w.heap.size+1,1,none⟩=some (.slice none 0 0):=by rw [p1];simp [go_sem]
 have x2:w2.cell? ⟨w.heap.size+1,2,none⟩=some (.bool false):=by rw [p1];simp [go_sem]
 have x3:w2.cell? ⟨w.heap.size+1,3,none⟩=some (.slice none 0 0):=by rw [p1];simp [go_sem]
 refine bodyPost_ret (v:=.agg #[.bool s1,.slice a1 n1 c1,.bool s2,.slice a2 n2 c2]) (by simp [results,Tryz.results97,go_sem,x0,x1,x2,x3,p2]) rfl ?_;refine⟨_,rfl,?_,?_⟩
 ·refine RatIs.store4 (RatIs.mk ?_ ?_) _ _ _ _ x0 x1 x2 x3 (noInt_bool _) (noInt_slice _ _ _) (noInt_bool _) (noInt_slice _ _ _)
  ·rw [Rat.num_intCast];exact ((H1.out.mono HB.out jl).drawn (Drawn.of _ 1)).mono hb2 jl
  ·rw [Rat.den_intCast];exact H2.out.le hk
 ·have h0:=HB.out.drew.trans (hb2.mono (by simp;omega));exact (((h0.setCell (by simp) _).setCell (by simp) _).setCell (by simp) _).setCell (by simp) _
theorem rat_sign (x:Value) (q:Rat) (k:Nat) (w:World) (hx:RatIs w x q k) :
  Calls Tryz.prog 109 #[x] w fun e w'=>e = .returned (.int .i64 (sgnZ q.num))/\Below w.heap.size w w':=by
 obtain⟨s1,a1,n1,c1,a2,n2,c2,rfl,H1⟩:=hx.shape;clear hx;have HB:Hid (Below w.heap.size w (w.alloc (Obj.cells #[.bool s1,.slice a1 n1 c1,.bool false,.slice a2 n2 c2] 92))):=boxes1 w _;go_enter Tryz.func109,Tryz.ntmps109
 go_wp2_with (first
  | (go_at_call 131;(with_reducible refine (int_sign _ q.num k _ (RatIs.num (H1.out.mono HB.out jl))).mono ?_);rintro e w1 ⟨rfl,hb1⟩))
 refine bodyPost_ret (v:=.int .i64 (sgnZ q.num)) (by simp [results,Tryz.results109,go_sem]) rfl ?_;exact⟨rfl,HB.out.trans (hb1.mono (by simp))⟩
theorem rat_neg (x:Value) (q:Rat) (k:Nat) (w:World) (hx:RatIs w x q k) :
  Calls Tryz.prog 87 #[x] w fun e w'=>∃ r,e = .returned r/\RatIs w' r (-q) k/\Below w.heap.size w w':=by
 obtain⟨s1,a1,n1,c1,a2,n2,c2,rfl,H1⟩:=hx.shape;clear hx;have HB:Hid (Below w.heap.size w ((w.alloc (Obj.cells #[.bool s1,.slice a1 n1 c1,.bool false,.slice a2 n2 c2] 92)).alloc (Obj.cells #[.bool false,.slice none 0 0,.bool false,.slice none 0 0] 92))):=boxes2 w _ _;go_enter Tryz.func87,Tryz.ntmps87;go_wp2
 go_region_held3 (fun w'=>w'.cell? ⟨w.heap.size,0,none⟩=some (.bool s1)/\w'.cell? ⟨w.heap.size,1,none⟩=some (.slice a1 n1 c1)/\w'.cell? ⟨w.heap.size,2,none⟩=some (.bool false)/\w'.cell? ⟨w.heap.size,3,none⟩=some (.slice a2 n2 c2)) (go_keep)
  (first
  | (go_at_call 123;(with_reducible refine (int_neg _ q.num k _ (RatIs.num (H1.out.mono HB.out jl)).drew).mono ?_);rintro e w2 ⟨r2,rfl,hr2,hb2⟩;obtain⟨s3,a3,n3,c3,rfl,H2⟩:=hr2.shape;clear hr2;obtain⟨p1,p2⟩:=kept1 hb2 (w.heap.size+1) (by simp);obtain⟨p3,p4⟩:=kept1 hb2 w.heap.size (by simp;omega)))
 go_wp2;have x0:w2.cell? ⟨w.heap.size+1,0,none⟩=some (.bool false):=by rw [p1];simp [go_sem]
 have x1:w2.cell? ⟨w.heap.size+1,1,none⟩=some (.slice none 0 0):=by rw [p1];simp [go_sem]
 have x2:w2.cell? ⟨w.heap.size+1,2,none⟩=some (.bool false):=by rw [p1];simp [go_sem]
 have x3:w2.cell? ⟨w.heap.size+1,3,none⟩=some (.slice none 0 0):=by rw [p1];simp [go_sem]
 refine bodyPost_ret (v:=.agg #[.bool s3,.slice a3 n3 c3,.bool false,.slice a2 n2 c2]) (by simp [results,Tryz.results87,go_sem,x0,x1,x2,x3,p2]) rfl ?_;refine⟨_,rfl,?_,?_⟩
 ·refine RatIs.store4 (RatIs.mk ?_ ?_) _ _ _ _ x0 x1 x2 x3 (noInt_bool _) (noInt_slice _ _ _) (noInt_bool _) (noInt_slice _ _ _)
  ·rw [Rat.neg_num];exact H2.out
  ·rw [Rat.neg_den];exact ((RatIs.den (H1.out.mono HB.out jl)).drawn (Drawn.of _ 1)).mono hb2 jl
 ·have h0:=HB.out.drew.trans (hb2.mono (by simp;omega));exact (((h0.setCell (by simp) _).setCell (by simp) _).setCell (by simp) _).setCell (by simp) _
theorem nl_one:nl 1=1:=by decide
theorem rat_integer (x:Value) (q:Rat) (k:Nat) (w:World) (b:Bool) (hb:decide (q.den=1)=b) (hx:RatIs w x q k) :
  Calls Tryz.prog 96 #[x] w fun e w'=>e = .returned (.bool b)/\Below w.heap.size w w':=by
 obtain⟨u,d,rfl,⟨a1,b1,o1,c1,rfl,i1⟩,⟨a2,b2,o2,c2,rfl,i2⟩,h3,h4⟩:=hx;have HB:=jj (fun (s:Bool) (n2:Nat)=>boxes1 w (Obj.cells #[.bool s,.slice a1 (nl q.num.natAbs) c1,.bool false,.slice a2 n2 c2] 92));generalize decide (q.num<0)=s at *
 have hnum:=nl_one;by_cases h1:nl q.den=1
 ·have ha:=i2.at_ (by omega);subst ha;have hc:=i2.cell 0 (by omega);have hlt:=i2.lt (by omega);simp only [Nat.add_zero,lc] at hc;have hv:=valF_nl q.den;rw [h1] at hv ⊢;simp only [valF,Nat.zero_add,Nat.pow_zero,Nat.mul_one] at hv;have HV:=jj hv;have HH:=jj hb;clear hv hb h1 i1 i2 h3 h4 hnum;cases b with
  | true=>
   have e1:q.den=1:=by simpa using HH.out
   have hd:(((dig q.den 0:Nat):Int) == 1)=true:=by rw [HV.out,e1];rfl
   have HE:=jj e1;clear e1;generalize dig q.den 0=D at *
   go_enter Tryz.func96,Tryz.ntmps96;go_wp2;go_ret;exact⟨rfl,HB.out _ _⟩
  | false=>
   have e1:q.den≠1:=by simpa using HH.out
   have hd:(((dig q.den 0:Nat):Int) == 1)=false:=by rw [HV.out];simp;omega
   have HE:=jj e1;clear e1;generalize dig q.den 0=D at *
   go_enter Tryz.func96,Tryz.ntmps96;go_wp2;go_ret;exact⟨rfl,HB.out _ _⟩
 ·obtain rfl:b=false:=by
   rw [<-hb];simp;intro h;rw [h] at h1;exact h1 hnum
  have hn:(((nl q.den:Nat):Int) == 1)=false:=by simp;omega
  clear h1 i1 i2 h3 h4 hnum hb;go_enter Tryz.func96,Tryz.ntmps96;go_wp2;go_ret;exact⟨rfl,HB.out _ _⟩
theorem IntIs.shapeN {w:World} {v:Value} {d m:Nat} (h:IntIs w v (d:Int) m):∃ a n c,v = .agg #[.bool false,.slice a n c]/\Hid (IntIs w (.agg #[.bool false,.slice a n c]) (d:Int) m):=by
 have h0:=h;obtain⟨u,rfl,⟨a,b,o,c,rfl,hs⟩,h2⟩:=h;have e:decide ((d:Int)<0)=false:=by simp
 rw [e] at h0 ⊢;exact⟨a,_,c,rfl,h0⟩
theorem sgnZ_one (G:Nat) (h:G=1):(sgnZ ((G:Int) - 1) == 0)=true:=by subst h;rfl
theorem sgnZ_other (G:Nat) (h:G≠1):(sgnZ ((G:Int) - 1) == 0)=false:=by
 unfold sgnZ;rw [if_neg (by omega)];split <;> rfl
theorem RatIs.into {w:World} {v:Value} {q:Rat} {m b:Nat} (h:RatIs w v q m) (u0 u1 u2 u3:Value) (ho:Own4 w b (.bool false) (.slice none 0 0) (.bool false) (.slice none 0 0)) :
  RatIs ((((w.setCell ⟨b,0,none⟩ u0).setCell ⟨b,1,none⟩ u1).setCell ⟨b,2,none⟩ u2).setCell ⟨b,3,none⟩ u3) v q m:=
 h.store4 u0 u1 u2 u3 ho.c0 ho.c1 ho.c2 ho.c3 (noInt_bool _) (noInt_slice _ _ _) (noInt_bool _) (noInt_slice _ _ _)
theorem below_set4 {B:Nat} {w0 w:World} {b:Nat} (h:Below B w0 w) (hB:B<=b) (u0 u1 u2 u3:Value) :
  Below B w0 ((((w.setCell ⟨b,0,none⟩ u0).setCell ⟨b,1,none⟩ u1).setCell ⟨b,2,none⟩ u2).setCell ⟨b,3,none⟩ u3):=
 (((h.setCell hB _).setCell hB _).setCell hB _).setCell hB _
theorem ratio_one (x y:Value) (p:Int) (d:Nat) (k:Nat) (w:World) (hx:IntIs w x p k) (hy:IntIs w y (d:Int) k) (hd:0<d) (hk2:2<=k) (hk:k<=549755813888) (h1:Nat.gcd p.natAbs d=1) :
  Calls Tryz.prog 99 #[x,y] w fun e w'=>∃ r,e = .returned r/\RatIs w' r (mkRat p d) k/\Below w.heap.size w w':=by
 obtain⟨s1,a1,n1,c1,rfl,H1⟩:=hx.shape;obtain⟨a2,n2,c2,rfl,H2⟩:=hy.shapeN;obtain⟨G,hG⟩:∃ G,G=Int.gcd p (d:Int):=⟨_,rfl⟩;have hsg:=sgnZ_one G (by rw [hG];exact h1);have HG:=jj hG;have H11:=jj h1;clear hG h1 hx hy;have O1:Hid (Own2 (((w.alloc (Obj.cells #[Value.bool s1,Value.slice a1 n1 c1] 90)).alloc (Obj.cells #[Value.bool false,Value.slice a2 n2 c2] 90)).alloc (Obj.cells #[.bool false,.slice none 0 0,.bool false,.slice none 0 0] 92)) w.heap.size (.bool s1) (.slice a1 n1 c1)):=((own2_new _ _ rfl _ _ _).alloc _).alloc _;have O2:Hid (Own2 (((w.alloc (Obj.cells #[Value.bool s1,Value.slice a1 n1 c1] 90)).alloc (Obj.cells #[Value.bool false,Value.slice a2 n2 c2] 90)).alloc (Obj.cells #[.bool false,.slice none 0 0,.bool false,.slice none 0 0] 92)) (w.heap.size+1) (.bool false) (.slice a2 n2 c2)):=(own2_new _ _ (by simp) _ _ _).alloc _;have O3:Hid (Own4 (((w.alloc (Obj.cells #[Value.bool s1,Value.slice a1 n1 c1] 90)).alloc (Obj.cells #[Value.bool false,Value.slice a2 n2 c2] 90)).alloc (Obj.cells #[.bool false,.slice none 0 0,.bool false,.slice none 0 0] 92)) (w.heap.size+1+1) (.bool false) (.slice none 0 0) (.bool false) (.slice none 0 0)):=own4_new _ _ (by simp) _ _ _ _ _;have HB:Hid (Below w.heap.size w (((w.alloc (Obj.cells #[Value.bool s1,Value.slice a1 n1 c1] 90)).alloc (Obj.cells #[Value.bool false,Value.slice a2 n2 c2] 90)).alloc (Obj.cells #[.bool false,.slice none 0 0,.bool false,.slice none 0 0] 92))):=boxes3 w _ _ _;go_enter Tryz.func99,Tryz.ntmps99
 go_wp2_with (first
  | (go_at_call 107;(with_reducible refine (int_gcd _ _ p (d:Int) k _ (H1.out.mono HB.out jl) (H2.out.mono HB.out jl) hk).mono ?_);rintro e w1 ⟨r,rfl,hr,hb1⟩;rw [<-HG.out] at hr;obtain⟨a3,n3,c3,rfl,H3⟩:=hr.shapeN;clear hr;have P1:=jj (O1.out.below hb1 O1.out.lt);have P2:=jj (O2.out.below hb1 O2.out.lt);have P3:=jj (O3.out.below hb1 O3.out.lt);obtain⟨x10,x11,_,_⟩:=P1.out;obtain⟨x20,x21,_,xl2⟩:=P2.out;obtain⟨_,_,_,_,_,xl3⟩:=P3.out;have HB1:=jj (HB.out.trans (hb1.mono (by simp;omega)));clear hb1))
 have HA1:Hid (Below w1.heap.size w1 (w1.alloc (Obj.cells #[Value.bool false,Value.slice a3 n3 c3] 90))):=boxes1 w1 _;have O4:Hid (Own2 (w1.alloc (Obj.cells #[Value.bool false,Value.slice a3 n3 c3] 90)) w1.heap.size (.bool false) (.slice a3 n3 c3)):=own2_new _ _ rfl _ _ _
 go_region_held3 (fun w'=>w'.cell? ⟨w1.heap.size,0,none⟩=some (.bool false)/\w'.cell? ⟨w1.heap.size,1,none⟩=some (.slice a3 n3 c3)) (go_keep)
  (first
  | (go_at_call 94;(with_reducible refine (int_of 1 (by omega) (by omega) _).mono ?_);rintro e w2 ⟨r2,rfl,hr2,hb2⟩;obtain⟨s4,a4,n4,c4,rfl,H4⟩:=hr2.shape;clear hr2;have Q4:=jj (O4.out.drew.below hb2 O4.out.drew.lt);obtain⟨_,_,_,zl4⟩:=Q4.out;obtain⟨p1,p2⟩:=kept1 hb2 w1.heap.size (by simp);have HB2:=jj (HA1.out.drew.trans (hb2.mono (by simp))))
  | (go_at_call 101;(with_reducible refine (int_cmp _ _ (G:Int) 1 k _ (H3.out.mono HB2.out jl) (H4.out.le hk2) hk).mono ?_);rintro e w3 ⟨rfl,hb3⟩;obtain⟨r1,r2⟩:=kept1 hb3 w1.heap.size (by omega);have HB3:=jj (HB2.out.trans (hb3.mono (by omega)));have R1:=jj (P1.out.below HB3.out P1.out.lt);have R2:=jj (P2.out.below HB3.out P2.out.lt);have R3:=jj (P3.out.below HB3.out P3.out.lt);have R4:=jj (Q4.out.below hb3 zl4);obtain⟨y10,y11,_,yl1⟩:=R1.out;obtain⟨y20,y21,_,yl2⟩:=R2.out;obtain⟨y30,y31,y32,y33,yf3,yl3⟩:=R3.out;obtain⟨y40,y41,_,yl4⟩:=R4.out;have HB4:=jj (HB1.out.trans (HB3.out.mono (by omega)))))
 clear p1 p2 r1 r2;go_wp2;refine bodyPost_ret (v:=.agg #[.bool s1,.slice a1 n1 c1,.bool false,.slice a2 n2 c2]) (by simp [results,Tryz.results99,go_sem,y30,y31,y32,y33,yf3]) rfl ?_;refine⟨_,rfl,RatIs.into (RatIs.mk ?_ ?_) _ _ _ _ R3.out,below_set4 HB4.out (by omega) _ _ _ _⟩
 ·rw [Rat.num_mkRat,if_neg (by omega),Nat.gcd_comm,H11.out];simp only [Int.natCast_one,Int.ediv_one];exact (H1.out.mono HB1.out jl).mono HB3.out jl
 ·rw [Rat.den_mkRat,if_neg (by omega),Nat.gcd_comm,H11.out,Nat.div_one];exact (H2.out.mono HB1.out jl).mono HB3.out jl
theorem ratio_other (x y:Value) (p:Int) (d:Nat) (k:Nat) (w:World) (hx:IntIs w x p k) (hy:IntIs w y (d:Int) k) (hd:0<d) (hk2:2<=k) (hk:k<=549755813888) (h1:¬ Nat.gcd p.natAbs d=1) :
  Calls Tryz.prog 99 #[x,y] w fun e w'=>∃ r,e = .returned r/\RatIs w' r (mkRat p d) k/\Below w.heap.size w w':=by
 obtain⟨s1,a1,n1,c1,rfl,H1⟩:=hx.shape;obtain⟨a2,n2,c2,rfl,H2⟩:=hy.shapeN;obtain⟨G,hG⟩:∃ G,G=Int.gcd p (d:Int):=⟨_,rfl⟩;have hGe:G=Nat.gcd p.natAbs d:=hG;have hsg:=sgnZ_other G (by rw [hGe];exact h1);have hGp:0<G:=by rw [hGe];exact Nat.gcd_pos_of_pos_right _ hd
 have hGd1:G ∣ p.natAbs:=by rw [hGe];exact Nat.gcd_dvd_left _ _
 have hGd2:G ∣ ((d:Nat):Int).natAbs:=by rw [hGe];exact Nat.gcd_dvd_right _ _
 have HE:=jj hGe;have D1:=jj hGd1;have D2:=jj hGd2;clear hGe hGd1 hGd2;have HG:=jj hG;have H11:=jj h1;clear hG h1 hx hy;have O1:Hid (Own2 (((w.alloc (Obj.cells #[Value.bool s1,Value.slice a1 n1 c1] 90)).alloc (Obj.cells #[Value.bool false,Value.slice a2 n2 c2] 90)).alloc (Obj.cells #[.bool false,.slice none 0 0,.bool false,.slice none 0 0] 92)) w.heap.size (.bool s1) (.slice a1 n1 c1)):=((own2_new _ _ rfl _ _ _).alloc _).alloc _;have O2:Hid (Own2 (((w.alloc (Obj.cells #[Value.bool s1,Value.slice a1 n1 c1] 90)).alloc (Obj.cells #[Value.bool false,Value.slice a2 n2 c2] 90)).alloc (Obj.cells #[.bool false,.slice none 0 0,.bool false,.slice none 0 0] 92)) (w.heap.size+1) (.bool false) (.slice a2 n2 c2)):=(own2_new _ _ (by simp) _ _ _).alloc _;have O3:Hid (Own4 (((w.alloc (Obj.cells #[Value.bool s1,Value.slice a1 n1 c1] 90)).alloc (Obj.cells #[Value.bool false,Value.slice a2 n2 c2] 90)).alloc (Obj.cells #[.bool false,.slice none 0 0,.bool false,.slice none 0 0] 92)) (w.heap.size+1+1) (.bool false) (.slice none 0 0) (.bool false) (.slice none 0 0)):=own4_new _ _ (by simp) _ _ _ _ _;have HB:Hid (Below w.heap.size w (((w.alloc (Obj.cells #[Value.bool s1,Value.slice a1 n1 c1] 90)).alloc (Obj.cells #[Value.bool false,Value.slice a2 n2 c2] 90)).alloc (Obj.cells #[.bool false,.slice none 0 0,.bool false,.slice none 0 0] 92))):=boxes3 w _ _ _;go_enter Tryz.func99,Tryz.ntmps99
 go_wp2_with (first
  | (go_at_call 107;(with_reducible refine (int_gcd _ _ p (d:Int) k _ (H1.out.mono HB.out jl) (H2.out.mono HB.out jl) hk).mono ?_);rintro e w1 ⟨r,rfl,hr,hb1⟩;rw [<-HG.out] at hr;obtain⟨a3,n3,c3,rfl,H3⟩:=hr.shapeN;clear hr;have P1:=jj (O1.out.below hb1 O1.out.lt);have P2:=jj (O2.out.below hb1 O2.out.lt);have P3:=jj (O3.out.below hb1 O3.out.lt);obtain⟨x10,x11,_,_⟩:=P1.out;obtain⟨x20,x21,_,xl2⟩:=P2.out;obtain⟨_,_,_,_,_,xl3⟩:=P3.out;have HB1:=jj (HB.out.trans (hb1.mono (by simp;omega)));clear hb1))
 have HA1:Hid (Below w1.heap.size w1 (w1.alloc (Obj.cells #[Value.bool false,Value.slice a3 n3 c3] 90))):=boxes1 w1 _;have O4:Hid (Own2 (w1.alloc (Obj.cells #[Value.bool false,Value.slice a3 n3 c3] 90)) w1.heap.size (.bool false) (.slice a3 n3 c3)):=own2_new _ _ rfl _ _ _
 go_region_held3 (fun w'=>w'.cell? ⟨w1.heap.size,0,none⟩=some (.bool false)/\w'.cell? ⟨w1.heap.size,1,none⟩=some (.slice a3 n3 c3)) (go_keep)
  (first
  | (go_at_call 94;(with_reducible refine (int_of 1 (by omega) (by omega) _).mono ?_);rintro e w2 ⟨r2,rfl,hr2,hb2⟩;obtain⟨s4,a4,n4,c4,rfl,H4⟩:=hr2.shape;clear hr2;have Q4:=jj (O4.out.drew.below hb2 O4.out.drew.lt);obtain⟨_,_,_,zl4⟩:=Q4.out;obtain⟨p1,p2⟩:=kept1 hb2 w1.heap.size (by simp);have HB2:=jj (HA1.out.drew.trans (hb2.mono (by simp))))
  | (go_at_call 101;(with_reducible refine (int_cmp _ _ (G:Int) 1 k _ (H3.out.mono HB2.out jl) (H4.out.le hk2) hk).mono ?_);rintro e w3 ⟨rfl,hb3⟩;obtain⟨r1,r2⟩:=kept1 hb3 w1.heap.size (by omega);have HB3:=jj (HB2.out.trans (hb3.mono (by omega)));have R1:=jj (P1.out.below HB3.out P1.out.lt);have R2:=jj (P2.out.below HB3.out P2.out.lt);have R3:=jj (P3.out.below HB3.out P3.out.lt);have R4:=jj (Q4.out.below hb3 zl4);obtain⟨y10,y11,_,yl1⟩:=R1.out;obtain⟨y20,y21,_,yl2⟩:=R2.out;obtain⟨y30,y31,y32,y33,yf3,yl3⟩:=R3.out;obtain⟨y40,y41,_,yl4⟩:=R4.out;have HB4:=jj (HB1.out.trans (HB3.out.mono (by omega)))))
 clear p1 p2 r1 r2;have HP1:=jj ((H1.out.mono HB1.out jl).mono HB3.out jl);have HP2:=jj ((H2.out.mono HB1.out jl).mono HB3.out jl);have HP3:=jj (H3.out.mono HB3.out jl);clear H1 H2 H3 H4 HB1 HB2 HB3 HB P1 P2 P3 O1 O2 O3 O4 Q4 HA1 HG H11 hsg
 go_wp2_with (first
  | (go_at_call 128;(with_reducible refine (quo_exact _ _ p G k _ HP1.out HP3.out hGp D1.out hk).mono ?_);rintro e w4 ⟨r4,r4',rfl,hr4,hr4',hb4⟩;obtain⟨s5,a5,n5,c5,rfl,H5⟩:=hr4.shape;clear hr4;obtain⟨s6,a6,n6,c6,rfl,H6⟩:=hr4'.shape;clear hr4';have S2:=jj (R2.out.below hb4 yl2);have S3:=jj (R3.out.below hb4 yl3);have S4:=jj (R4.out.below hb4 yl4);obtain⟨z20,z21,_,zl2⟩:=S2.out;obtain⟨z40,z41,_,zl4⟩:=S4.out;obtain⟨_,_,_,_,_,zl3⟩:=S3.out;have ne1:¬ (w.heap.size=w4.heap.size):=(by omega);have ne2:¬ (w1.heap.size=w4.heap.size+1):=(by omega);have ne3:¬ (w.heap.size+1=w4.heap.size):=(by omega);have ne4:¬ (w1.heap.size=w4.heap.size):=(by omega);have HS2:=jj (HP2.out.mono hb4 jl);have HS3:=jj (HP3.out.mono hb4 jl);have HB5:=jj (HB4.out.trans (hb4.mono (by omega)));have HA4:=jj (boxes2 w4 (Obj.cells #[.bool s5,.slice a5 n5 c5] 90) (Obj.cells #[.bool s6,.slice a6 n6 c6] 90));have U2:=jj (S2.out.below HA4.out zl2);obtain⟨v20,v21,_,_⟩:=U2.out;have U4:=jj (S4.out.below HA4.out zl4);obtain⟨v40,v41,_,_⟩:=U4.out;have T1:=jj ((own2_new w4 _ rfl (.bool s5) (.slice a5 n5 c5) 90).alloc (Obj.cells #[.bool s6,.slice a6 n6 c6] 90));clear hb4)
  | (go_at_call 128;(with_reducible refine (quo_exact _ _ (d:Int) G k _ (HS2.out.mono HA4.out jl) (HS3.out.mono HA4.out jl) hGp D2.out hk).mono ?_);rintro e w5 ⟨r5,r5',rfl,hr5,hr5',hb5⟩;obtain⟨s7,a7,n7,c7,rfl,H7⟩:=hr5.shape;clear hr5;obtain⟨s8,a8,n8,c8,rfl,H8⟩:=hr5'.shape;clear hr5';have T3:=jj ((S3.out.below HA4.out zl3).below hb5 (by simp;omega));have T5:=jj (T1.out.below hb5 (by simp;omega));obtain⟨_,_,_,_,_,ul3⟩:=T3.out;obtain⟨_,_,_,ul5⟩:=T5.out;have HA5:=jj (boxes2 w5 (Obj.cells #[.bool s7,.slice a7 n7 c7] 90) (Obj.cells #[.bool s8,.slice a8 n8 c8] 90));have V3:=jj (T3.out.below HA5.out ul3);have V5:=jj (T5.out.below HA5.out ul5);obtain⟨u30,u31,u32,u33,uf3,_⟩:=V3.out;obtain⟨u50,u51,_,_⟩:=V5.out;have HB6:=jj (HB5.out.trans (((HA4.out.trans (hb5.mono (by simp;omega))).trans (HA5.out.mono (by have:=hb5.size;simp at this;omega))).mono (by omega)));have G5:=jj (((H5.out.mono HA4.out jl).mono hb5 jl).mono HA5.out jl);have G7:=jj (H7.out.mono HA5.out jl);clear hb5))
 refine bodyPost_ret (v:=.agg #[.bool s5,.slice a5 n5 c5,.bool s7,.slice a7 n7 c7]) (by simp [results,Tryz.results99,go_sem,u30,u31,u32,u33,uf3]) rfl ?_;refine⟨_,rfl,RatIs.into (RatIs.mk ?_ ?_) _ _ _ _ V3.out,below_set4 HB6.out (by omega) _ _ _ _⟩
 ·rw [Rat.num_mkRat,if_neg (by omega),Nat.gcd_comm,<-HE.out];exact G5.out
 ·rw [Rat.den_mkRat,if_neg (by omega),Nat.gcd_comm,<-HE.out,Int.natCast_ediv];exact G7.out
end Go.Proofs.YtgmopcncbpdniaaGreat
