import Derived.Test.YtgmopcncbpdniaaGreatIClr
import Derived.Test.YtgmopcncbpdniaaGreatIRefQs
import Derived.Test.YtgmopcncbpdniaaGreatIBig18
import Derived.Test.YtgmopcncbpdniaaGreatIBig17
import Derived.Test.YtgmopcncbpdniaaGreatIPlainB
import Derived.Test.YtgmopcncbpdniaaGreatIRnd
import Derived.Deep.DeepCutAuto
import Derived.Deep.CutBlock
set_option linter.unusedVariables false
set_option linter.unusedSimpArgs false
namespace Go.Proofs.YtgmopcncbpdniaaGreat
open Go.RowKit
structure Pays (n:Nat) (cash:Nat→Int) (d:Nat→Nat→Int) (F:Nat→Bool) (p:Nat→Rat):Prop where
 rnd:RndJ n (cashQ cash) (totQ n d) (shQ n d) F
 sol:SolF n (cashQ cash) (totQ n d) (shQ n d) F p
 clr:ClrQ n (cashQ cash) (totQ n d) (shQ n d) p
 no:∀ i,i<n→F i=false→totQ n d i≤hasP n (cashQ cash) (shQ n d) p i
theorem last_no {n:Nat} {cash:Nat→Int} {d:Nat→Nat→Int} {ps:(Nat→Bool)→Nat→Rat} {q:Nat} (h:Last n cash d ps q):∀ i,i<n→NW n cash d ps q i=false:=fun i hi=>by
 rcases Bool.eq_false_or_eq_true (NW n cash d ps q i) with e | e
 ·have h1:=(frL_rank _ n i hi e).1
  have h2:=h.zero
  unfold rwM at h2
  omega
 ·exact e
theorem pays_of {n:Nat} {cash:Nat→Int} {d:Nat→Nat→Int} {ps:(Nat→Bool)→Nat→Rat} {q:Nat} (hR:Rng n cash d) (hd:∀ i j,0≤d i j) (hps:PsOK n cash d ps) (h:Last n cash d ps q):Pays n cash d (FS n cash d ps q) (PS n cash d ps q):=by
 obtain⟨x,hx⟩:=ps_rdy hps hR hd q
 have hJ:=rnd_all hps hR hd q
 have hno:∀ i,i<n→FS n cash d ps q i=false→totQ n d i≤hasP n (cashQ cash) (shQ n d) (PS n cash d ps q) i:=fun i hi hF=>by
  have h1:=last_no h i hi
  refine Rat.not_lt.1 (fun hlt=>?_)
  rw [nw_iff,hF,decide_eq_true hlt] at h1
  cases h1
 exact⟨hJ,hx.sol,sol_clears (mktQ_of hR hd) hJ hx.sol hno,hno⟩
theorem txtq_of {n:Nat} {cash:Nat→Int} {d:Nat→Nat→Int} {ps:(Nat→Bool)→Nat→Rat} {q:Nat} {ss:Nat→ByteArray} (hR:Rng n cash d) (hn:n≤8) (hd:∀ i j,0≤d i j) (hps:PsOK n cash d ps) (h:TxtsOf n (PS n cash d ps q) ss):TxtQs n (PS n cash d ps q) ss:=
 ⟨fun j hj=>⟨h.txt j hj,(pay_maxD hR hn hd hps q j hj).1,(pay_maxD hR hn hd hps q j hj).2⟩⟩
end Go.Proofs.YtgmopcncbpdniaaGreat
namespace Go.Proofs.YtgmopcncbpdniaaGreat
open Go.RowKit
attribute [local go_sem ↓] Go.wp_at_zero Go.wp_at_succ
def QV (w:World) (v:Value) (q:Rat) (m:Nat):Prop:=∃ p d:Int,QIs w v p d m∧(p:Rat)=q*(d:Rat)
theorem QIs.le {w:World} {v:Value} {p d:Int} {m k:Nat} (h:QIs w v p d m) (hk:m≤k):QIs w v p d k:=by
 obtain⟨s1,u1,s2,u2,h0,h1,h2,h3⟩:=h
 exact⟨s1,u1,s2,u2,h0,h1.le hk,h2.le hk,h3⟩
theorem QIs.pos {w:World} {v:Value} {p d:Int} {m:Nat} (h:QIs w v p d m):0<d:=by
 obtain⟨s1,u1,s2,u2,h0,h1,h2,h3⟩:=h
 exact h3
theorem QV.mono {w w':World} {v:Value} {q:Rat} {m B:Nat} (h:QV w v q m) (hb:Below B w w') (hB:w.heap.size≤B):QV w' v q m:=by
 obtain⟨p,d,h1,h2⟩:=h
 exact⟨p,d,h1.mono hb hB,h2⟩
theorem QV.le {w:World} {v:Value} {q:Rat} {m k:Nat} (h:QV w v q m) (hk:m≤k):QV w v q k:=by
 obtain⟨p,d,h1,h2⟩:=h
 exact⟨p,d,h1.le hk,h2⟩
theorem QV.of {w:World} {v:Value} {q:Rat} {m:Nat} (h:QIs w v q.num ((q.den:Nat):Int) m):QV w v q m:=
 ⟨_,_,h,(mul_den_num q).symm⟩
theorem QV.shape {w:World} {v:Value} {q:Rat} {m:Nat} (h:QV w v q m):∃ s a n c t b l e,v = .agg #[.bool s,.slice a n c,.bool t,.slice b l e]∧Hid (QV w (.agg #[.bool s,.slice a n c,.bool t,.slice b l e]) q m):=by
 obtain⟨p,d,h1,h2⟩:=h
 obtain⟨s,a,n,c,t,b,l,e,rfl,-,-,-⟩:=h1.shape
 exact⟨s,a,n,c,t,b,l,e,rfl,p,d,h1,h2⟩
theorem rat_ne {d:Int} (h:0<d):(d:Rat)≠0:=fun e=>by
 have:((d:Int):Rat)=((0:Int):Rat):=e
 have:=Rat.intCast_inj.1 this
 omega
theorem rat_pos {d:Int} (h:0<d):(0:Rat)<(d:Rat):=Rat.intCast_pos.2 h
theorem mul_pos_iff {a d:Rat} (h:0<d):0<a*d↔0<a:=by
 constructor
 ·intro h1
  refine Rat.not_le.1 (fun h2=>?_)
  have h3:=Rat.mul_nonneg (show 0≤-a by grind) (Rat.le_of_lt h)
  have h4 : -a*d = -(a*d):=by grind
  rw [h4] at h3
  grind
 ·exact fun h1=>Rat.mul_pos h1 h
def cmpR (a b:Rat):Int:=if a<b then -1 else if a=b then 0 else 1
theorem sgZ_cmp {p q:Int} {d e:Int} {a b:Rat} (hd:0<d) (he:0<e) (hp:(p:Rat)=a*(d:Rat)) (hq:(q:Rat)=b*(e:Rat)):sgZ (p*e - q*d)=cmpR a b:=by
 have hde:=Rat.mul_pos (rat_pos hd) (rat_pos he)
 have e1:((p*e - q*d:Int):Rat)=(a - b)*((d:Rat)*(e:Rat)):=by
  rw [Rat.intCast_sub,Rat.intCast_mul,Rat.intCast_mul,hp,hq];grind
 generalize p*e - q*d=z at e1
 have h1:0<z↔b<a:=by
  have h2:=mul_pos_iff (a:=a - b) hde
  rw [←e1,Rat.intCast_pos] at h2
  rw [h2];constructor <;> intro h <;> grind
 have h2:z<0↔a<b:=by
  have h2:=mul_pos_iff (a:=b - a) hde
  have e2:(b - a)*((d:Rat)*(e:Rat))=((-z:Int):Rat):=by rw [Rat.intCast_neg,e1];grind
  rw [e2,Rat.intCast_pos] at h2
  rw [show z<0↔0 < -z by omega,h2];constructor <;> intro h <;> grind
 unfold sgZ cmpR
 by_cases c1:z<0
 ·rw [if_pos c1,if_pos (h2.1 c1)]
 ·rw [if_neg c1,if_neg (fun h=>c1 (h2.2 h))]
  by_cases c2:z=0
  ·have c3:a=b:=by
    have n1:¬ a<b:=fun h=>c1 (h2.2 h)
    have n2:¬ b<a:=fun h=>by have:=h1.2 h;omega
    have:=Rat.not_lt.1 n1
    have:=Rat.not_lt.1 n2
    grind
   rw [if_pos c2,if_pos c3]
  ·have c3:¬ a=b:=fun h=>by
    have:b<a:=h1.1 (by omega)
    rw [h] at this;exact absurd this Rat.lt_irrefl
   rw [if_neg c2,if_neg c3]
theorem sgZ_cmp0 {p d:Int} {a:Rat} (hd:0<d) (hp:(p:Rat)=a*(d:Rat)):sgZ p=cmpR a 0:=by
 have h:=sgZ_cmp (p:=p) (q:=0) (d:=d) (e:=1) (a:=a) (b:=0) hd (by omega) hp (by simp)
 simpa using h
theorem qv_whole (v:Int) (w:World) (h1 : -9223372036854775808≤v) (h2:v<9223372036854775808) :
  Calls Tryz.prog 16 #[.int .i64 v] w fun ex w'=>∃ r,ex = .returned r∧QV w' r (v:Rat) 5∧Below w.heap.size w w':=by
 refine (whole_any v h1 h2 w).mono ?_
 rintro e w' ⟨r,rfl,hr,hb⟩
 exact⟨r,rfl,⟨v,1,hr,by simp⟩,hb⟩
theorem qv_mul (x y:Value) (a b:Rat) (k:Nat) (w:World) (hx:QV w x a k) (hy:QV w y b k) (hk:k≤274877906940) :
  Calls Tryz.prog 48 #[x,y] w fun ex w'=>∃ r,ex = .returned r∧QV w' r (a*b) (2*k)∧Below w.heap.size w w':=by
 obtain⟨p,d,h1,e1⟩:=hx
 obtain⟨q,e,h2,e2⟩:=hy
 refine (qmul_any x y p d q e k w h1 h2 hk).mono ?_
 rintro ex w' ⟨r,rfl,hr,hb⟩
 exact⟨r,rfl,⟨_,_,hr,by rw [Rat.intCast_mul,Rat.intCast_mul,e1,e2];grind⟩,hb⟩
theorem qv_add (x y:Value) (a b:Rat) (k:Nat) (w:World) (hx:QV w x a k) (hy:QV w y b k) (hk:k≤274877906940) :
  Calls Tryz.prog 18 #[x,y] w fun ex w'=>∃ r,ex = .returned r∧QV w' r (a+b) (2*k+1)∧Below w.heap.size w w':=by
 obtain⟨p,d,h1,e1⟩:=hx
 obtain⟨q,e,h2,e2⟩:=hy
 refine (qadd_any x y p d q e k w h1 h2 hk).mono ?_
 rintro ex w' ⟨r,rfl,hr,hb⟩
 exact⟨r,rfl,⟨_,_,hr,by rw [Rat.intCast_add,Rat.intCast_mul,Rat.intCast_mul,Rat.intCast_mul,e1,e2];grind⟩,hb⟩
theorem qv_sub (x y:Value) (a b:Rat) (k:Nat) (w:World) (hx:QV w x a k) (hy:QV w y b k) (hk:k≤274877906940) :
  Calls Tryz.prog 28 #[x,y] w fun ex w'=>∃ r,ex = .returned r∧QV w' r (a - b) (2*k+1)∧Below w.heap.size w w':=by
 obtain⟨p,d,h1,e1⟩:=hx
 obtain⟨q,e,h2,e2⟩:=hy
 refine (qsub_any x y p d q e k w h1 h2 hk).mono ?_
 rintro ex w' ⟨r,rfl,hr,hb⟩
 exact⟨r,rfl,⟨_,_,hr,by rw [Rat.intCast_sub,Rat.intCast_mul,Rat.intCast_mul,Rat.intCast_mul,e1,e2];grind⟩,hb⟩
theorem qv_cmp (x y:Value) (a b:Rat) (k:Nat) (w:World) (hx:QV w x a k) (hy:QV w y b k) (hk:k≤274877906940) :
  Calls Tryz.prog 14 #[x,y] w fun ex w'=>ex = .returned (.int .i64 (cmpR a b))∧Below w.heap.size w w':=by
 obtain⟨p,d,h1,e1⟩:=hx
 obtain⟨q,e,h2,e2⟩:=hy
 have g1:=h1.pos
 have g2:=h2.pos
 refine (qcmp_any x y p d q e k w h1 h2 hk).mono ?_
 rintro ex w' ⟨rfl,hb⟩
 exact⟨by rw [sgZ_cmp g1 g2 e1 e2],hb⟩
theorem qv_sign {s t:Bool} {u u2:Value} (a:Rat) (k:Nat) (w:World) (h:QV w (.agg #[.bool s,u,.bool t,u2]) a k) :
  Calls Tryz.prog 29 #[.agg #[.bool s,u]] w fun ex w'=>ex = .returned (.int .i64 (cmpR a 0))∧Below w.heap.size w w':=by
 obtain⟨p,d,h1,e1⟩:=h
 obtain⟨s1,u1,s2,u2',h0,g1,g2,g3⟩:=h1
 injection h0 with h0
 injection h0 with h0
 simp only [List.cons.injEq,and_true] at h0
 obtain⟨h0,h00,-,-⟩:=h0
 injection h0 with h0
 subst h0 h00
 refine (bsign_any _ p k w g1).mono ?_
 rintro ex w' ⟨rfl,hb⟩
 exact⟨by rw [sgZ_cmp0 g3 e1],hb⟩
set_option maxHeartbeats 4000000 in
theorem qlow_any (x:Value) (p d:Int) (k:Nat) (w:World) (hx:QIs w x p d k) (hk:k≤274877906940) :
  Calls Tryz.prog 50 #[x] w fun ex w'=>∃ r,ex = .returned r∧QIs w' r (p / ((Int.gcd p d:Nat):Int)) (d / ((Int.gcd p d:Nat):Int)) k∧Below w.heap.size w w':=by
 obtain⟨s1,a1,n1,c1,t1,a2,n2,c2,rfl,HN,HD,hd⟩:=hx.shape
 have bn:=HN.out.digits
 have bd:=HD.out.digits
 clear hx
 obtain⟨G,hG⟩:∃ G,G=Int.gcd p d:=⟨_,rfl⟩
 have hGp:0<G:=by rw [hG];exact Int.gcd_pos_of_ne_zero_right p (by omega)
 have hGn:((G:Nat):Int) ∣ p:=by rw [hG];exact Int.gcd_dvd_left p d
 have hGd:((G:Nat):Int) ∣ d:=by rw [hG];exact Int.gcd_dvd_right p d
 have m1:p % ((G:Nat):Int)=0:=Int.emod_eq_zero_of_dvd hGn
 have l1:nd (p / ((G:Nat):Int)).natAbs≤k:=Nat.le_trans (nd_mono (by
  rw [Int.natAbs_ediv_of_dvd hGn];exact Nat.div_le_self _ _)) bn
 have l2:nd (d / ((G:Nat):Int)).natAbs≤k:=Nat.le_trans (nd_mono (by
  rw [Int.natAbs_ediv_of_dvd hGd];exact Nat.div_le_self _ _)) bd
 have dp:0<d / ((G:Nat):Int):=by
  obtain⟨c,hc⟩:=hGd
  rw [hc,Int.mul_ediv_cancel_left _ (by omega)]
  refine Int.lt_of_not_ge (fun h=>?_)
  have:((G:Nat):Int)*c≤0:=Int.mul_nonpos_of_nonneg_of_nonpos (by omega) h
  omega
 rw [←hG]
 have HG0:=Lib.hid hG
 have HL:=Lib.hid (And.intro l1 l2)
 have HM:=Lib.hid (Or.inr m1:0≤p∨p % ((G:Nat):Int)=0)
 have HDP:=Lib.hid dp
 have HD0:=Lib.hid hd
 have HGP:Hid ((0:Int)<((G:Nat):Int)):=Lib.hid (by omega)
 clear hG hGn hGd m1 l1 l2 dp bn bd hd hGp
 have KW:=Lib.hid (boxes2 w (Obj.cells #[.bool s1,.slice a1 n1 c1,.bool t1,.slice a2 n2 c2] 40) (Obj.cells #[.bool false,.slice none 0 0,.bool false,.slice none 0 0] 40))
 have HN:=Lib.hid (HN.out.mono KW.out (Nat.le_refl _))
 have HD:=Lib.hid (HD.out.mono KW.out (Nat.le_refl _))
 have P1:=Lib.hid ((own4_new w w.heap.size rfl (.bool s1) (.slice a1 n1 c1) (.bool t1) (.slice a2 n2 c2) 40).alloc (Obj.cells #[.bool false,.slice none 0 0,.bool false,.slice none 0 0] 40))
 have P2:=Lib.hid (own4_new (w.alloc (Obj.cells #[.bool s1,.slice a1 n1 c1,.bool t1,.slice a2 n2 c2] 40)) (w.heap.size+1) (by simp) (.bool false) (.slice none 0 0) (.bool false) (.slice none 0 0) 40)
 obtain⟨x10,x11,x12,x13,_,xl1⟩:=P1.out
 go_enter Tryz.func50,Tryz.ntmps50
 go_wp2_with fail
 refine (zgcd_any _ _ p d k _ HN.out HD.out (by omega)).mono ?_
 rintro e w1 ⟨g,rfl,hg,hb1⟩
 obtain⟨sg,ag,ng,cg,rfl,HG⟩:=hg.shape
 rw [←HG0.out] at HG
 have hba:=hb1.trans ((Below.refl w1.heap.size w1).alloc (Nat.le_refl _) (Obj.cells #[.bool sg,.slice ag ng cg] 38) |>.mono hb1.size)
 have KW:=Lib.hid (KW.out.trans (hba.mono KW.out.size))
 have HN:=Lib.hid (HN.out.mono hba (Nat.le_refl _))
 have HD:=Lib.hid (HD.out.mono hba (Nat.le_refl _))
 have P1:=Lib.hid (P1.out.below hba P1.out.lt)
 have P2:=Lib.hid (P2.out.below hba P2.out.lt)
 have GB:=Lib.hid (own2_new w1 w1.heap.size rfl (.bool sg) (.slice ag ng cg) 38)
 have HG:=Lib.hid (HG.out.mono (boxes1 w1 (Obj.cells #[.bool sg,.slice ag ng cg] 38)) (Nat.le_refl _))
 clear hg hb1 hba x10 x11 x12 x13 xl1
 obtain⟨x10,x11,x12,x13,_,xl1⟩:=P1.out
 obtain⟨y0,y1,_,yl⟩:=GB.out
 go_wp2_with fail
 refine (zdivmod_any _ _ p ((G:Nat):Int) k k _ HN.out HG.out HGP.out HM.out (by omega) (by omega)).mono ?_
 rintro e w2 ⟨u2,v2,rfl,hu,hv,hb2⟩
 obtain⟨s3,a3,n3,c3,rfl,HU⟩:=(hu.tight HL.out.1).shape
 obtain⟨s4,a4,n4,c4,rfl,-⟩:=hv.shape
 have hbb:=boxes2 w2 (Obj.cells #[.bool s3,.slice a3 n3 c3] 38) (Obj.cells #[.bool s4,.slice a4 n4 c4] 38)
 have hba:=hb2.trans (hbb.mono hb2.size)
 have KW:=Lib.hid (KW.out.trans (hba.mono KW.out.size))
 have HD:=Lib.hid (HD.out.mono hba (Nat.le_refl _))
 have P1:=Lib.hid (P1.out.below hba P1.out.lt)
 have P2:=Lib.hid (P2.out.below hba P2.out.lt)
 have GB:=Lib.hid (GB.out.below hba GB.out.lt)
 have HG:=Lib.hid (HG.out.mono hba (Nat.le_refl _))
 have HU:=Lib.hid (HU.out.mono hbb (Nat.le_refl _))
 have NB:=Lib.hid ((own2_new w2 w2.heap.size rfl (.bool s3) (.slice a3 n3 c3) 38).alloc (Obj.cells #[.bool s4,.slice a4 n4 c4] 38))
 clear hu hv hb2 hbb hba x10 x11 x12 x13 xl1 y0 y1 yl
 obtain⟨x10,x11,x12,x13,_,xl1⟩:=P1.out
 obtain⟨y0,y1,_,yl⟩:=GB.out
 go_wp2_with fail
 refine (zdivmod_any _ _ d ((G:Nat):Int) k k _ HD.out HG.out HGP.out (.inl (by have:=HD0.out;omega)) (by omega) (by omega)).mono ?_
 rintro e w3 ⟨u3,v3,rfl,hu,hv,hb3⟩
 obtain⟨s5,a5,n5,c5,rfl,HV⟩:=(hu.tight HL.out.2).shape
 obtain⟨s6,a6,n6,c6,rfl,-⟩:=hv.shape
 have hbb:=boxes2 w3 (Obj.cells #[.bool s5,.slice a5 n5 c5] 38) (Obj.cells #[.bool s6,.slice a6 n6 c6] 38)
 have hba:=hb3.trans (hbb.mono hb3.size)
 have KW:=Lib.hid (KW.out.trans (hba.mono KW.out.size))
 have P2:=Lib.hid (P2.out.below hba P2.out.lt)
 have HU:=Lib.hid (HU.out.mono hba (Nat.le_refl _))
 have NB:=Lib.hid (NB.out.below hba NB.out.lt)
 have HV:=Lib.hid (HV.out.mono hbb (Nat.le_refl _))
 have MB:=Lib.hid ((own2_new w3 w3.heap.size rfl (.bool s5) (.slice a5 n5 c5) 38).alloc (Obj.cells #[.bool s6,.slice a6 n6 c6] 38))
 clear hu hv hb3 hbb hba x10 x11 x12 x13 xl1 y0 y1 yl HG GB HD P1
 obtain⟨x0,x1,x2,x3,xf,xl⟩:=P2.out
 obtain⟨y0,y1,_,yl⟩:=NB.out
 obtain⟨z0,z1,_,zl⟩:=MB.out
 go_wp2_with fail
 refine bodyPost_ret (v:=.agg #[.bool s3,.slice a3 n3 c3,.bool s5,.slice a5 n5 c5]) (by simp [results,Tryz.results50,go_sem,x0,x1,x2,x3,xf,xl]) rfl ?_
 exact⟨_,rfl,⟨_,_,_,_,rfl,HU.out.store4 P2.out _ _ _ _,HV.out.store4 P2.out _ _ _ _,HDP.out⟩,below_set4q KW.out (by omega) _ _ _ _⟩
end Go.Proofs.YtgmopcncbpdniaaGreat
namespace Go.Proofs.YtgmopcncbpdniaaGreat
variable {n:Nat} {cash:Nat→Int} {d:Nat→Nat→Int} {ps:(Nat→Bool)→Nat→Rat}
theorem last_uniq {q r:Nat} (h:Last n cash d ps q) (h':Last n cash d ps r):q=r:=by
 rcases Nat.lt_trichotomy q r with e | e | e
 ·have:=h'.pos q e;have:=h.zero;omega
 ·exact e
 ·have:=h.pos r e;have:=h'.zero;omega
theorem cmpR_lt (a b:Rat):decide (cmpR a b<0)=decide (a<b):=by
 unfold cmpR
 by_cases h:a<b
 ·rw [if_pos h];simp [h]
 ·rw [if_neg h]
  split <;> simp [h]
end Go.Proofs.YtgmopcncbpdniaaGreat
namespace Go.Proofs.YtgmopcncbpdniaaGreat
open Go.RowKit
theorem own_push {w:World} {B n:Nat} {v:Value} {f:Nat→Int} {x:Int} (h:w.ownsRow B 3 1 v (n+1) (ics f n ++ [.int .i64 x])) (hx:x=f n):w.ownsRow B 3 1 v (n+1) (ics f (n+1)):=by
 rw [hx,ics_succ] at h;exact h
set_option maxHeartbeats 8000000 in
set_option maxRecDepth 100000 in
theorem lmade_any (nv lx ly:Nat) (vx vy:Value) (fx fy:Nat→Nat) (w:World) (hnv:nv<256) (hx:U16s w vx lx fx) (hy:U16s w vy ly fy) (hlx:lx≤9223372036854775807) (hly:ly≤9223372036854775807) :
  Calls Tryz.prog 10 #[.int .u8 (nv:Nat),vx,vy] w fun e w'=>∃ va vk vb vl,e = .returned (.tuple #[.slice va (nv % 8+1) vk,.slice vb (nv % 8+1) vl])∧
   Ints w' (.slice va (nv % 8+1) vk) (nv % 8+1) (cashM lx fx)∧Mat w' (.slice vb (nv % 8+1) vl) (nv % 8+1) (fun _=>nv % 8+1) (debtM (nv % 8+1) ly fy)∧Below w.heap.size w w':=by
 obtain⟨⟨ax,bx,ox,cx,rfl,sx⟩,hxr⟩:=hx
 obtain⟨⟨ay,by_,oy,cy,rfl,sy⟩,hyr⟩:=hy
 have SX:=Lib.hid sx
 have SY:=Lib.hid sy
 have HXR:=Lib.hid hxr
 have HYR:=Lib.hid hyr
 clear sx sy hxr hyr
 obtain⟨k,hk⟩:∃ k,k=nv % 8+1:=⟨_,rfl⟩
 rw [←hk]
 have hk1:1≤k:=by omega
 have hk8:k≤8:=by omega
 have hkk:(nv:Int) % 8+1=(k:Int):=by omega
 clear hk
 obtain⟨i0,hinf,hz0,hz1,hz2⟩:=info_parts infoI
 obtain⟨i1,hinf1,hz01,hz11,hz21⟩:=info_parts infoM
 have KW0:Hid (Below w.heap.size w ((w.alloc (.cells #[] 3)).alloc (.cells #[] 24))):=Lib.hid (((Below.refl w.heap.size w).alloc (Nat.le_refl _) _).alloc (by simp) _)
 have G0:Hid (MadeS w.heap.size ((w.alloc (.cells #[] 3)).alloc (.cells #[] 24)) 0 k (.slice (some ⟨w.heap.size,0,none⟩) 0 0) (.slice (some ⟨w.heap.size+1,0,none⟩) 0 0) (fun _=>none) (fun _=>0) (cashM lx fx) (debtM k ly fy)):=Lib.hid (by
  have h1:=(World.ownsRow_made (e:=3) (base:=w.heap.size) (size:=1) w #[] 0 (Nat.le_refl _) (by unfold maxLen;omega) rfl).alloc (.cells #[] 24)
  have h2:=World.ownsRow_made (e:=24) (base:=w.heap.size) (size:=1) (w.alloc (.cells #[] 3)) #[] 0 (by simp) (by unfold maxLen;omega) rfl
  rw [World.size_alloc] at h2
  exact⟨h1,RowsIn.start h2,fun g e e2=>by
   have a:=Option.some.inj e
   have b:=Option.some.inj e2
   simp at a b
   omega,fun i g hi=>by omega⟩)
 go_enter Tryz.func10,Tryz.ntmps10
 go_wp2_with fail
 clear hkk
 go_loopw [9,10,11] (fun v9 v10 v11 wr=>∃ q:Nat,q≤k∧v11 = .int .i64 (q:Nat)∧∃ va vk vb vl ra rc,v9 = .slice va q vk∧v10 = .slice vb q vl∧Hid (MadeS w.heap.size wr q k (.slice va q vk) (.slice vb q vl) ra rc (cashM lx fx) (debtM k ly fy))∧Hid (Below w.heap.size w wr)) (fun _ _ v11 _=>k - (intOf v11).toNat)
 case atStart=>exact⟨0,by omega,rfl,_,0,_,0,_,_,rfl,rfl,G0,KW0⟩
 case round=>
  clear G0 KW0
  obtain⟨q,hq,rfl,va,vk,vb,vl,ra,rc,rfl,rfl,G,KW⟩:=hrel
  by_cases h:q<k
  ·have e1:decide ((q:Int)<(k:Int))=true:=by simpa using h
   go_upto_if 31 with (fail)
   go_cut [12] (fun v12 wx=>v12 = .int .i64 (cashM lx fx q)∧Hid (MadeS w.heap.size wx q k (.slice va q vk) (.slice vb q vl) ra rc (cashM lx fx) (debtM k ly fy))∧Hid (Below w.heap.size w wx))
   case first=>
    by_cases hi:q<lx
    ·have e2:decide ((q:Int)<(lx:Int))=true:=by simpa using hi
     have hix:=fun W=>ixH SX.out q cx hi W
     have hc:=(SX.out.mono KW.out (Nat.le_refl _)).cell q hi
     have hr:=HXR.out q hi
     have hv:((fx q:Nat):Int) % 1001=cashM lx fx q:=by unfold cashM;rw [if_pos hi];omega
     go_wp2
     go_meet
     case rel=>exact⟨by rw [hv],G,KW⟩
    ·have e2:decide ((q:Int)<(lx:Int))=false:=by simpa using hi
     have hv:cashM lx fx q=0:=by unfold cashM;rw [if_neg hi]
     have HV:=Lib.hid hv
     clear hv
     go_wp2
     go_meet
     case rel=>exact⟨by rw [HV.out],G,KW⟩
   case rest=>
    clear G KW
    obtain⟨rfl,G,KW⟩:=hcut
    go_wp2_with fail
    have OW0:=Lib.hid (World.ownsRow_made (e:=3) (base:=wc.heap.size) (size:=1) wc #[] 0 (Nat.le_refl _) (by unfold maxLen;omega) rfl)
    have KI0:=Lib.hid ((Below.refl wc.heap.size wc).alloc (Nat.le_refl _) (.cells #[] 3))
    go_loopw [13,14] (fun v13 v14 wr=>∃ j:Nat,j≤k∧v14 = .int .i64 (j:Nat)∧∃ vr vs,v13 = .slice vr j vs∧Hid (wr.ownsRow wc.heap.size 3 1 (.slice vr j vs) j (ics (debtM k ly fy q) j))∧Hid (Below wc.heap.size wc wr)) (fun _ v14 _=>k - (intOf v14).toNat)
    case atStart=>exact⟨0,by omega,rfl,_,0,rfl,OW0,KI0⟩
    case round=>
     clear OW0 KI0
     obtain⟨j,hj,rfl,vr,vs,rfl,OW,KI⟩:=hrel
     by_cases h2:j<k
     ·have f1:decide ((j:Int)<(k:Int))=true:=by simpa using h2
      obtain⟨t,ht⟩:∃ t,t=q*k+j:=⟨_,rfl⟩
      have hqk:q*k≤64:=Nat.le_trans (Nat.mul_le_mul (Nat.le_of_lt h) (Nat.le_refl k)) (Nat.le_trans (Nat.mul_le_mul hk8 hk8) (by decide))
      have w1:IntKind.i64.wrap ((q:Int)*(k:Int))=((q*k:Nat):Int):=by rw [←Int.natCast_mul,IntKind.wrap_i64];omega
      have HT:=Lib.hid ht
      obtain⟨qk,hqk2⟩:∃ qk,qk=q*k:=⟨_,rfl⟩
      rw [←hqk2] at w1 hqk
      have w2:IntKind.i64.wrap ((qk:Int)+(j:Int))=(t:Int):=by rw [IntKind.wrap_i64];rw [ht,←hqk2];omega
      clear ht hqk2 hqk
      by_cases c1:t<ly
      ·have d1:decide ((t:Int)<(ly:Int))=true:=by simpa using c1
       have d1n:decide (t<ly)=true:=by simpa using c1
       by_cases c2:q=j
       ·have d2:((q:Int) != (j:Int))=false:=by simp [c2]
        have HV:Hid (0=debtM k ly fy q j):=Lib.hid (by unfold debtM;rw [if_neg (fun e=>e.2.1 c2)])
        clear c2
        go_wp2_with (at_builtin;refine wpList_append_own _ rfl (.tmp 73) (.tmp 75) 24 rfl wc.heap.size 3 i0 (.int .i64 0) 1 8 Tryz.underlying24 hinf hz0 hz1 hz2 rfl (by decide) (.slice vr j vs) j (ics (debtM k ly fy q) j) rfl (OW.out.alloc _) ⟨wr.heap.size,0,none⟩ 1 1 [.int .i64 0] rfl rfl (new1 wr (.int .i64 0) 3) (one1 _ rfl) (by unfold maxLen;omega) (by omega) (by have:=KI.out.size;simp;omega) ?_;intro v' wJ hown hgrow _;obtain⟨vr5,vs5,rfl⟩:=own_shape hown;have HOWN:=Lib.hid (own_push hown HV.out);have KJ:=Lib.hid ((KI.out.alloc KI.out.size _).grown hgrow (by have:=KI.out.size;simp;omega) (fun kk e=>(OW.out.lt kk e).1));clear hown hgrow)
        go_roundw
        case rel=>exact⟨j+1,by omega,by go_num,vr5,vs5,rfl,HOWN,KJ⟩
        case measure=>simp [intOf];omega
       ·have d2:((q:Int) != (j:Int))=true:=by simp;omega
        have hjx:=fun W=>ixH SY.out t cy c1 W
        have hjc:=(SY.out.mono (KW.out.trans (KI.out.mono KW.out.size)) (Nat.le_refl _)).cell t c1
        have hr:=HYR.out t c1
        by_cases c3:0<fy t % 3
        ·have d3:decide (0<((fy t:Nat):Int) % 3)=true:=by simp;omega
         have HV:Hid (((fy t:Nat):Int) / 3 % 1001=debtM k ly fy q j):=Lib.hid (by
          have:=HT.out
          subst this
          unfold debtM;rw [if_pos ⟨c1,c2,c3⟩];omega)
         clear c2 c3
         go_wp2_with (at_builtin;refine wpList_append_own _ rfl (.tmp 73) (.tmp 75) 24 rfl wc.heap.size 3 i0 (.int .i64 0) 1 8 Tryz.underlying24 hinf hz0 hz1 hz2 rfl (by decide) (.slice vr j vs) j (ics (debtM k ly fy q) j) rfl (OW.out.alloc _) ⟨wr.heap.size,0,none⟩ 1 1 [.int .i64 (((fy t:Nat):Int) / 3 % 1001)] rfl rfl (new1 wr (.int .i64 (((fy t:Nat):Int) / 3 % 1001)) 3) (one1 _ rfl) (by unfold maxLen;omega) (by omega) (by have:=KI.out.size;simp;omega) ?_;intro v' wJ hown hgrow _;obtain⟨vr5,vs5,rfl⟩:=own_shape hown;have HOWN:=Lib.hid (own_push hown HV.out);have KJ:=Lib.hid ((KI.out.alloc KI.out.size _).grown hgrow (by have:=KI.out.size;simp;omega) (fun kk e=>(OW.out.lt kk e).1));clear hown hgrow)
         go_roundw
         case rel=>exact⟨j+1,by omega,by go_num,vr5,vs5,rfl,HOWN,KJ⟩
         case measure=>simp [intOf];omega
        ·have d3:decide (0<((fy t:Nat):Int) % 3)=false:=by simp;omega
         have HV:Hid (0=debtM k ly fy q j):=Lib.hid (by
          have:=HT.out
          subst this
          unfold debtM;rw [if_neg (fun e=>c3 e.2.2)])
         clear c2 c3
         go_wp2_with (at_builtin;refine wpList_append_own _ rfl (.tmp 73) (.tmp 75) 24 rfl wc.heap.size 3 i0 (.int .i64 0) 1 8 Tryz.underlying24 hinf hz0 hz1 hz2 rfl (by decide) (.slice vr j vs) j (ics (debtM k ly fy q) j) rfl (OW.out.alloc _) ⟨wr.heap.size,0,none⟩ 1 1 [.int .i64 0] rfl rfl (new1 wr (.int .i64 0) 3) (one1 _ rfl) (by unfold maxLen;omega) (by omega) (by have:=KI.out.size;simp;omega) ?_;intro v' wJ hown hgrow _;obtain⟨vr5,vs5,rfl⟩:=own_shape hown;have HOWN:=Lib.hid (own_push hown HV.out);have KJ:=Lib.hid ((KI.out.alloc KI.out.size _).grown hgrow (by have:=KI.out.size;simp;omega) (fun kk e=>(OW.out.lt kk e).1));clear hown hgrow)
         go_roundw
         case rel=>exact⟨j+1,by omega,by go_num,vr5,vs5,rfl,HOWN,KJ⟩
         case measure=>simp [intOf];omega
      ·have d1:decide ((t:Int)<(ly:Int))=false:=by simpa using c1
       have d1n:decide (t<ly)=false:=by simpa using c1
       have HV:Hid (0=debtM k ly fy q j):=Lib.hid (by
        have:=HT.out
        subst this
        unfold debtM;rw [if_neg (fun e=>c1 e.1)])
       go_wp2_with (at_builtin;refine wpList_append_own _ rfl (.tmp 73) (.tmp 75) 24 rfl wc.heap.size 3 i0 (.int .i64 0) 1 8 Tryz.underlying24 hinf hz0 hz1 hz2 rfl (by decide) (.slice vr j vs) j (ics (debtM k ly fy q) j) rfl (OW.out.alloc _) ⟨wr.heap.size,0,none⟩ 1 1 [.int .i64 0] rfl rfl (new1 wr (.int .i64 0) 3) (one1 _ rfl) (by unfold maxLen;omega) (by omega) (by have:=KI.out.size;simp;omega) ?_;intro v' wJ hown hgrow _;obtain⟨vr5,vs5,rfl⟩:=own_shape hown;have HOWN:=Lib.hid (own_push hown HV.out);have KJ:=Lib.hid ((KI.out.alloc KI.out.size _).grown hgrow (by have:=KI.out.size;simp;omega) (fun kk e=>(OW.out.lt kk e).1));clear hown hgrow)
       go_roundw
       case rel=>exact⟨j+1,by omega,by go_num,vr5,vs5,rfl,HOWN,KJ⟩
       case measure=>simp [intOf];omega
     ·obtain rfl:j=k:=by omega
      have f1:decide ((j:Int)<(j:Int))=false:=by simp
      go_wp2_with (first
       | (at_builtin;refine wpList_append_own_at _ rfl (.tmp 77) (.tmp 79) 24 rfl w.heap.size 3 i0 (.int .i64 0) 1 8 Tryz.underlying24 hinf hz0 hz1 hz2 rfl (by decide) (.slice va q vk) q (ics (cashM lx fx) q) rfl ((own_kept G.out.cash KI.out).alloc _) ⟨wr.heap.size,0,none⟩ 1 1 [.int .i64 (cashM lx fx q)] rfl rfl (new1 wr (.int .i64 (cashM lx fx q)) 3) (one1 _ rfl) (by unfold maxLen;omega) (by omega) (by have:=KW.out.size;have:=KI.out.size;simp;omega) ?_;intro v' wJ hown hgrow _ hbk;rw [ics_succ] at hown;obtain⟨va5,vk5,rfl⟩:=own_shape hown;have HOWN:=Lib.hid hown;have HGROW:=Lib.hid hgrow;have HBK:=Lib.hid hbk;have RM:=Lib.hid (G.out.mid KI.out _ hgrow);have KJ:=Lib.hid (((KW.out.trans (KI.out.mono KW.out.size)).alloc (by have:=KW.out.size;have:=KI.out.size;omega) _).grown hgrow (by have:=KW.out.size;have:=KI.out.size;simp;omega) (fun kk e=>(G.out.cash.lt kk e).1));clear hown hgrow hbk)
       | (at_builtin;refine wpList_append_own_at _ rfl (.tmp 81) (.tmp 83) 25 rfl w.heap.size 24 i1 (.slice none 0 0) 1 24 Tryz.underlying25 hinf1 hz01 hz11 hz21 rfl (by decide) (.slice vb q vl) q (rowCells ra (fun _=>j) rc q) rfl (RM.out.own.alloc _) ⟨wJ.heap.size,0,none⟩ 1 1 [.slice vr j vs] rfl rfl (new1 wJ (.slice vr j vs) 24) (one1 _ rfl) (by unfold maxLen;omega) (by omega) (by have:=KJ.out.size;simp;omega) ?_;intro v' wK hown hgrow _ hbk;obtain⟨vb5,vl5,rfl⟩:=own_shape hown;have HOWN2:=Lib.hid hown;have HGROW2:=Lib.hid hgrow;have HBK2:=Lib.hid hbk;clear hown hgrow hbk))
      go_roundw
      case rel=>
       have G2:=G.out.push KW.out.size KI.out OW.out _ _ HGROW.out HBK.out HOWN.out HGROW2.out HBK2.out HOWN2.out
       exact⟨q+1,by omega,by go_num,va5,vk5,vb5,vl5,_,_,rfl,rfl,Lib.hid G2,Lib.hid ((KJ.out.alloc KJ.out.size _).grown HGROW2.out (by have:=KJ.out.size;simp;omega) (fun kk e=>(G.out.rows.own.lt kk e).1))⟩
      case measure=>simp [intOf];omega
  ·obtain rfl:q=k:=by omega
   have e1:decide ((q:Int)<(q:Int))=false:=by simp
   have HL:Hid (Ints wr (.slice va q vk) q (cashM lx fx)∧Mat wr (.slice vb q vl) q (fun _=>q) (debtM q ly fy)∧Below w.heap.size w wr):=Lib.hid ⟨ints_of_own G.out.cash,G.out.rows.mat,KW.out⟩
   clear G KW
   go_wp2
   go_ret2
   exact⟨_,_,_,_,rfl,HL.out.1,HL.out.2.1,HL.out.2.2⟩
end Go.Proofs.YtgmopcncbpdniaaGreat
