import Derived.Test.YtgmopcncbpdniaaGreatJBig18
import Derived.Test.YtgmopcncbpdniaaGreatJPlainT
import Derived.Test.YtgmopcncbpdniaaGreatJPlainB
import Derived.Test.YtgmopcncbpdniaaGreatJBrow
import Derived.Test.YtgmopcncbpdniaaGreatJSol
import Derived.Maps.AppendAt
import Derived.Laws.Rows
import Derived.RegionTactic
set_option linter.unusedVariables false
set_option linter.unusedSimpArgs false
namespace Go.Proofs.YtgmopcncbpdniaaGreat
open Go.RowKit
attribute [local go_sem ↓] Go.wp_at_zero Go.wp_at_succ
def QV (w:World) (v:Value) (q:Rat) (m:Nat):Prop:=∃ p d:Int,QIs w v p d m∧(p:Rat)=q*(d:Rat)
theorem QIs.le {w:World} {v:Value} {p d:Int} {m k:Nat} (h:QIs w v p d m) (hk:m≤k):QIs w v p d k:=by
 obtain⟨s1,u1,s2,u2,h0,h1,h2,h3⟩:=h
 exact⟨s1,u1,s2,u2,h0,h1.le hk,h2.le hk,h3⟩
theorem QIs.pos {w:World} {v:Value} {p d:Int} {m:Nat} (h:QIs w v p d m):0<d:=by
 obtain⟨s1,u1,s2,u2,h0,h1,h2,h3⟩:=h
 exact h3
theorem QV.mono {w w':World} {v:Value} {q:Rat} {m B:Nat} (h:QV w v q m) (hb:Below B w w') (hB:w.heap.size≤B):QV w' v q m:=by
 obtain⟨p,d,h1,h2⟩:=h
 exact⟨p,d,h1.mono hb hB,h2⟩
theorem QV.le {w:World} {v:Value} {q:Rat} {m k:Nat} (h:QV w v q m) (hk:m≤k):QV w v q k:=by
 obtain⟨p,d,h1,h2⟩:=h
 exact⟨p,d,h1.le hk,h2⟩
theorem QV.of {w:World} {v:Value} {q:Rat} {m:Nat} (h:QIs w v q.num ((q.den:Nat):Int) m):QV w v q m:=
 ⟨_,_,h,(mul_den_num q).symm⟩
theorem QV.shape {w:World} {v:Value} {q:Rat} {m:Nat} (h:QV w v q m):∃ s a n c t b l e,v = .agg #[.bool s,.slice a n c,.bool t,.slice b l e]∧Hid (QV w (.agg #[.bool s,.slice a n c,.bool t,.slice b l e]) q m):=by
 obtain⟨p,d,h1,h2⟩:=h
 obtain⟨s,a,n,c,t,b,l,e,rfl,-,-,-⟩:=h1.shape
 exact⟨s,a,n,c,t,b,l,e,rfl,p,d,h1,h2⟩
theorem rat_ne {d:Int} (h:0<d):(d:Rat)≠0:=fun e=>by
 have:((d:Int):Rat)=((0:Int):Rat):=e
 have:=Rat.intCast_inj.1 this
 omega
theorem rat_pos {d:Int} (h:0<d):(0:Rat)<(d:Rat):=Rat.intCast_pos.2 h
theorem mul_pos_iff {a d:Rat} (h:0<d):0<a*d↔0<a:=by
 constructor
 ·intro h1
  refine Rat.not_le.1 (fun h2=>?_)
  have h3:=Rat.mul_nonneg (show 0≤-a by grind) (Rat.le_of_lt h)
  have h4 : -a*d = -(a*d):=by grind
  rw [h4] at h3
  grind
 ·exact fun h1=>Rat.mul_pos h1 h
def cmpR (a b:Rat):Int:=if a<b then -1 else if a=b then 0 else 1
theorem sgZ_cmp {p q:Int} {d e:Int} {a b:Rat} (hd:0<d) (he:0<e) (hp:(p:Rat)=a*(d:Rat)) (hq:(q:Rat)=b*(e:Rat)):sgZ (p*e - q*d)=cmpR a b:=by
 have hde:=Rat.mul_pos (rat_pos hd) (rat_pos he)
 have e1:((p*e - q*d:Int):Rat)=(a - b)*((d:Rat)*(e:Rat)):=by
  rw [Rat.intCast_sub,Rat.intCast_mul,Rat.intCast_mul,hp,hq];grind
 generalize p*e - q*d=z at e1
 have h1:0<z↔b<a:=by
  have h2:=mul_pos_iff (a:=a - b) hde
  rw [←e1,Rat.intCast_pos] at h2
  rw [h2];constructor <;> intro h <;> grind
 have h2:z<0↔a<b:=by
  have h2:=mul_pos_iff (a:=b - a) hde
  have e2:(b - a)*((d:Rat)*(e:Rat))=((-z:Int):Rat):=by rw [Rat.intCast_neg,e1];grind
  rw [e2,Rat.intCast_pos] at h2
  rw [show z<0↔0 < -z by omega,h2];constructor <;> intro h <;> grind
 unfold sgZ cmpR
 by_cases c1:z<0
 ·rw [if_pos c1,if_pos (h2.1 c1)]
 ·rw [if_neg c1,if_neg (fun h=>c1 (h2.2 h))]
  by_cases c2:z=0
  ·have c3:a=b:=by
    have n1:¬ a<b:=fun h=>c1 (h2.2 h)
    have n2:¬ b<a:=fun h=>by have:=h1.2 h;omega
    have:=Rat.not_lt.1 n1
    have:=Rat.not_lt.1 n2
    grind
   rw [if_pos c2,if_pos c3]
  ·have c3:¬ a=b:=fun h=>by
    have:b<a:=h1.1 (by omega)
    rw [h] at this;exact absurd this Rat.lt_irrefl
   rw [if_neg c2,if_neg c3]
theorem sgZ_cmp0 {p d:Int} {a:Rat} (hd:0<d) (hp:(p:Rat)=a*(d:Rat)):sgZ p=cmpR a 0:=by
 have h:=sgZ_cmp (p:=p) (q:=0) (d:=d) (e:=1) (a:=a) (b:=0) hd (by omega) hp (by simp)
 simpa using h
theorem qv_whole (v:Int) (w:World) (h1 : -9223372036854775808≤v) (h2:v<9223372036854775808) :
  Calls Tryz.prog 16 #[.int .i64 v] w fun ex w'=>∃ r,ex = .returned r∧QV w' r (v:Rat) 5∧Below w.heap.size w w':=by
 refine (whole_any v h1 h2 w).mono ?_
 rintro e w' ⟨r,rfl,hr,hb⟩
 exact⟨r,rfl,⟨v,1,hr,by simp⟩,hb⟩
theorem qv_mul (x y:Value) (a b:Rat) (k:Nat) (w:World) (hx:QV w x a k) (hy:QV w y b k) (hk:k≤274877906940) :
  Calls Tryz.prog 48 #[x,y] w fun ex w'=>∃ r,ex = .returned r∧QV w' r (a*b) (2*k)∧Below w.heap.size w w':=by
 obtain⟨p,d,h1,e1⟩:=hx
 obtain⟨q,e,h2,e2⟩:=hy
 refine (qmul_any x y p d q e k w h1 h2 hk).mono ?_
 rintro ex w' ⟨r,rfl,hr,hb⟩
 exact⟨r,rfl,⟨_,_,hr,by rw [Rat.intCast_mul,Rat.intCast_mul,e1,e2];grind⟩,hb⟩
theorem qv_add (x y:Value) (a b:Rat) (k:Nat) (w:World) (hx:QV w x a k) (hy:QV w y b k) (hk:k≤274877906940) :
  Calls Tryz.prog 18 #[x,y] w fun ex w'=>∃ r,ex = .returned r∧QV w' r (a+b) (2*k+1)∧Below w.heap.size w w':=by
 obtain⟨p,d,h1,e1⟩:=hx
 obtain⟨q,e,h2,e2⟩:=hy
 refine (qadd_any x y p d q e k w h1 h2 hk).mono ?_
 rintro ex w' ⟨r,rfl,hr,hb⟩
 exact⟨r,rfl,⟨_,_,hr,by rw [Rat.intCast_add,Rat.intCast_mul,Rat.intCast_mul,Rat.intCast_mul,e1,e2];grind⟩,hb⟩
theorem qv_cmp (x y:Value) (a b:Rat) (k:Nat) (w:World) (hx:QV w x a k) (hy:QV w y b k) (hk:k≤274877906940) :
  Calls Tryz.prog 14 #[x,y] w fun ex w'=>ex = .returned (.int .i64 (cmpR a b))∧Below w.heap.size w w':=by
 obtain⟨p,d,h1,e1⟩:=hx
 obtain⟨q,e,h2,e2⟩:=hy
 have g1:=h1.pos
 have g2:=h2.pos
 refine (qcmp_any x y p d q e k w h1 h2 hk).mono ?_
 rintro ex w' ⟨rfl,hb⟩
 exact⟨by rw [sgZ_cmp g1 g2 e1 e2],hb⟩
theorem qv_sign {s t:Bool} {u u2:Value} (a:Rat) (k:Nat) (w:World) (h:QV w (.agg #[.bool s,u,.bool t,u2]) a k) :
  Calls Tryz.prog 29 #[.agg #[.bool s,u]] w fun ex w'=>ex = .returned (.int .i64 (cmpR a 0))∧Below w.heap.size w w':=by
 obtain⟨p,d,h1,e1⟩:=h
 obtain⟨s1,u1,s2,u2',h0,g1,g2,g3⟩:=h1
 injection h0 with h0
 injection h0 with h0
 simp only [List.cons.injEq,and_true] at h0
 obtain⟨h0,h00,-,-⟩:=h0
 injection h0 with h0
 subst h0 h00
 refine (bsign_any _ p k w g1).mono ?_
 rintro ex w' ⟨rfl,hb⟩
 exact⟨by rw [sgZ_cmp0 g3 e1],hb⟩
set_option maxHeartbeats 4000000 in
theorem qlow_any (x:Value) (p d:Int) (k:Nat) (w:World) (hx:QIs w x p d k) (hk:k≤274877906940) :
  Calls Tryz.prog 50 #[x] w fun ex w'=>∃ r,ex = .returned r∧QIs w' r (p / ((Int.gcd p d:Nat):Int)) (d / ((Int.gcd p d:Nat):Int)) k∧Below w.heap.size w w':=by
 obtain⟨s1,a1,n1,c1,t1,a2,n2,c2,rfl,HN,HD,hd⟩:=hx.shape
 have bn:=HN.out.digits
 have bd:=HD.out.digits
 clear hx
 obtain⟨G,hG⟩:∃ G,G=Int.gcd p d:=⟨_,rfl⟩
 have hGp:0<G:=by rw [hG];exact Int.gcd_pos_of_ne_zero_right p (by omega)
 have hGn:((G:Nat):Int) ∣ p:=by rw [hG];exact Int.gcd_dvd_left p d
 have hGd:((G:Nat):Int) ∣ d:=by rw [hG];exact Int.gcd_dvd_right p d
 have m1:p % ((G:Nat):Int)=0:=Int.emod_eq_zero_of_dvd hGn
 have l1:nd (p / ((G:Nat):Int)).natAbs≤k:=Nat.le_trans (nd_mono (by
  rw [Int.natAbs_ediv_of_dvd hGn];exact Nat.div_le_self _ _)) bn
 have l2:nd (d / ((G:Nat):Int)).natAbs≤k:=Nat.le_trans (nd_mono (by
  rw [Int.natAbs_ediv_of_dvd hGd];exact Nat.div_le_self _ _)) bd
 have dp:0<d / ((G:Nat):Int):=by
  obtain⟨c,hc⟩:=hGd
  rw [hc,Int.mul_ediv_cancel_left _ (by omega)]
  refine Int.lt_of_not_ge (fun h=>?_)
  have:((G:Nat):Int)*c≤0:=Int.mul_nonpos_of_nonneg_of_nonpos (by omega) h
  omega
 rw [←hG]
 have HG0:=Lib.hid hG
 have HL:=Lib.hid (And.intro l1 l2)
 have HM:=Lib.hid (Or.inr m1:0≤p∨p % ((G:Nat):Int)=0)
 have HDP:=Lib.hid dp
 have HD0:=Lib.hid hd
 have HGP:Hid ((0:Int)<((G:Nat):Int)):=Lib.hid (by omega)
 clear hG hGn hGd m1 l1 l2 dp bn bd hd hGp
 have KW:=Lib.hid (boxes2 w (Obj.cells #[.bool s1,.slice a1 n1 c1,.bool t1,.slice a2 n2 c2] 40) (Obj.cells #[.bool false,.slice none 0 0,.bool false,.slice none 0 0] 40))
 have HN:=Lib.hid (HN.out.mono KW.out (Nat.le_refl _))
 have HD:=Lib.hid (HD.out.mono KW.out (Nat.le_refl _))
 have P1:=Lib.hid ((own4_new w w.heap.size rfl (.bool s1) (.slice a1 n1 c1) (.bool t1) (.slice a2 n2 c2) 40).alloc (Obj.cells #[.bool false,.slice none 0 0,.bool false,.slice none 0 0] 40))
 have P2:=Lib.hid (own4_new (w.alloc (Obj.cells #[.bool s1,.slice a1 n1 c1,.bool t1,.slice a2 n2 c2] 40)) (w.heap.size+1) (by simp) (.bool false) (.slice none 0 0) (.bool false) (.slice none 0 0) 40)
 obtain⟨x10,x11,x12,x13,_,xl1⟩:=P1.out
 go_enter Tryz.func50,Tryz.ntmps50
 go_wp2_with fail
 refine (zgcd_any _ _ p d k _ HN.out HD.out (by omega)).mono ?_
 rintro e w1 ⟨g,rfl,hg,hb1⟩
 obtain⟨sg,ag,ng,cg,rfl,HG⟩:=hg.shape
 rw [←HG0.out] at HG
 have hba:=hb1.trans ((Below.refl w1.heap.size w1).alloc (Nat.le_refl _) (Obj.cells #[.bool sg,.slice ag ng cg] 38) |>.mono hb1.size)
 have KW:=Lib.hid (KW.out.trans (hba.mono KW.out.size))
 have HN:=Lib.hid (HN.out.mono hba (Nat.le_refl _))
 have HD:=Lib.hid (HD.out.mono hba (Nat.le_refl _))
 have P1:=Lib.hid (P1.out.below hba P1.out.lt)
 have P2:=Lib.hid (P2.out.below hba P2.out.lt)
 have GB:=Lib.hid (own2_new w1 w1.heap.size rfl (.bool sg) (.slice ag ng cg) 38)
 have HG:=Lib.hid (HG.out.mono (boxes1 w1 (Obj.cells #[.bool sg,.slice ag ng cg] 38)) (Nat.le_refl _))
 clear hg hb1 hba x10 x11 x12 x13 xl1
 obtain⟨x10,x11,x12,x13,_,xl1⟩:=P1.out
 obtain⟨y0,y1,_,yl⟩:=GB.out
 go_wp2_with fail
 refine (zdivmod_any _ _ p ((G:Nat):Int) k k _ HN.out HG.out HGP.out HM.out (by omega) (by omega)).mono ?_
 rintro e w2 ⟨u2,v2,rfl,hu,hv,hb2⟩
 obtain⟨s3,a3,n3,c3,rfl,HU⟩:=(hu.tight HL.out.1).shape
 obtain⟨s4,a4,n4,c4,rfl,-⟩:=hv.shape
 have hbb:=boxes2 w2 (Obj.cells #[.bool s3,.slice a3 n3 c3] 38) (Obj.cells #[.bool s4,.slice a4 n4 c4] 38)
 have hba:=hb2.trans (hbb.mono hb2.size)
 have KW:=Lib.hid (KW.out.trans (hba.mono KW.out.size))
 have HD:=Lib.hid (HD.out.mono hba (Nat.le_refl _))
 have P1:=Lib.hid (P1.out.below hba P1.out.lt)
 have P2:=Lib.hid (P2.out.below hba P2.out.lt)
 have GB:=Lib.hid (GB.out.below hba GB.out.lt)
 have HG:=Lib.hid (HG.out.mono hba (Nat.le_refl _))
 have HU:=Lib.hid (HU.out.mono hbb (Nat.le_refl _))
 have NB:=Lib.hid ((own2_new w2 w2.heap.size rfl (.bool s3) (.slice a3 n3 c3) 38).alloc (Obj.cells #[.bool s4,.slice a4 n4 c4] 38))
 clear hu hv hb2 hbb hba x10 x11 x12 x13 xl1 y0 y1 yl
 obtain⟨x10,x11,x12,x13,_,xl1⟩:=P1.out
 obtain⟨y0,y1,_,yl⟩:=GB.out
 go_wp2_with fail
 refine (zdivmod_any _ _ d ((G:Nat):Int) k k _ HD.out HG.out HGP.out (.inl (by have:=HD0.out;omega)) (by omega) (by omega)).mono ?_
 rintro e w3 ⟨u3,v3,rfl,hu,hv,hb3⟩
 obtain⟨s5,a5,n5,c5,rfl,HV⟩:=(hu.tight HL.out.2).shape
 obtain⟨s6,a6,n6,c6,rfl,-⟩:=hv.shape
 have hbb:=boxes2 w3 (Obj.cells #[.bool s5,.slice a5 n5 c5] 38) (Obj.cells #[.bool s6,.slice a6 n6 c6] 38)
 have hba:=hb3.trans (hbb.mono hb3.size)
 have KW:=Lib.hid (KW.out.trans (hba.mono KW.out.size))
 have P2:=Lib.hid (P2.out.below hba P2.out.lt)
 have HU:=Lib.hid (HU.out.mono hba (Nat.le_refl _))
 have NB:=Lib.hid (NB.out.below hba NB.out.lt)
 have HV:=Lib.hid (HV.out.mono hbb (Nat.le_refl _))
 have MB:=Lib.hid ((own2_new w3 w3.heap.size rfl (.bool s5) (.slice a5 n5 c5) 38).alloc (Obj.cells #[.bool s6,.slice a6 n6 c6] 38))
 clear hu hv hb3 hbb hba x10 x11 x12 x13 xl1 y0 y1 yl HG GB HD P1
 obtain⟨x0,x1,x2,x3,xf,xl⟩:=P2.out
 obtain⟨y0,y1,_,yl⟩:=NB.out
 obtain⟨z0,z1,_,zl⟩:=MB.out
 go_wp2_with fail
 refine bodyPost_ret (v:=.agg #[.bool s3,.slice a3 n3 c3,.bool s5,.slice a5 n5 c5]) (by simp [results,Tryz.results50,go_sem,x0,x1,x2,x3,xf,xl]) rfl ?_
 exact⟨_,rfl,⟨_,_,_,_,rfl,HU.out.store4 P2.out _ _ _ _,HV.out.store4 P2.out _ _ _ _,HDP.out⟩,below_set4q KW.out (by omega) _ _ _ _⟩
end Go.Proofs.YtgmopcncbpdniaaGreat
namespace Go.Proofs.YtgmopcncbpdniaaGreat
open Go.RowKit
attribute [local go_sem ↓] Go.wp_at_zero Go.wp_at_succ
theorem infoZQ:(Tryz.prog.info? 40).map (fun i=>(i.zero,i.size,i.bytes))=some (some (.agg #[.bool false,.slice none 0 0,.bool false,.slice none 0 0]),4,64):=by kernel_rfl
theorem kindz_made (w:World) (t:TypeId) (n c:Nat):KindZ (w.alloc (.cells #[] t)) (.slice (some ⟨w.heap.size,0,none⟩) n c):=fun g hg o x hx=>by
 have:w.heap.size=g:=Option.some.inj hg
 subst this
 rw [cell_of (t:=t) (fr:=(0,0)) (heap_alloc_new w _)] at hx
 simp at hx
theorem qrow_start (w:World) (p d:Nat→Int) (K:Nat):QRow (w.alloc (.cells #[] 40)) w.heap.size (.slice (some ⟨w.heap.size,0,none⟩) 0 0) 0 p d K []:=
 QRow.nil _ _ _ _ _ _ (World.ownsRow_made (e:=40) (base:=w.heap.size) (size:=4) w #[] 0 (Nat.le_refl _) (by unfold maxLen;omega) rfl) (kindz_made _ _ _ _)
def qN (q:Nat→Rat) (j:Nat):Int:=(q j).num
def qD (q:Nat→Rat) (j:Nat):Int:=((q j).den:Nat)
set_option maxHeartbeats 2000000 in
set_option maxRecDepth 100000 in
theorem qs_any (v:Value) (n:Nat) (q:Nat→Rat) (ss:Nat→ByteArray) (w:World) (hv:Strs w v n ss) (hn:n≤1000) (hq:TxtQs n q ss) :
  Calls Tryz.prog 33 #[v] w fun e w'=>∃ va vk xs,e = .returned (.slice va n vk)∧QRow w' w.heap.size (.slice va n vk) n (qN q) (qD q) 1000 xs∧Below w.heap.size w w':=by
 obtain⟨a,b,o,c,rfl,hs⟩:=hv
 obtain⟨i0,hi,hz0,hz1,hz2⟩:=info_parts infoZQ
 have HS:=Lib.hid hs
 have HQ:=Lib.hid hq
 have KW0:=Lib.hid ((Below.refl w.heap.size w).alloc (Nat.le_refl _) (.cells #[] 40))
 have R0:=Lib.hid (qrow_start w (qN q) (qD q) 1000)
 clear hs hq
 go_enter Tryz.func33,Tryz.ntmps33
 go_wp2
 go_loopw [3,4] (fun v3 v4 wr=>∃ k:Nat,k≤n∧v4 = .int .i64 (k:Nat)∧∃ va vk xs,v3 = .slice va k vk∧Hid (QRow wr w.heap.size (.slice va k vk) k (qN q) (qD q) 1000 xs)∧Hid (Below w.heap.size w wr)) (fun _ v4 _=>n - (intOf v4).toNat)
 case atStart=>exact⟨0,by omega,rfl,_,0,[],rfl,R0,KW0⟩
 case round=>
  clear R0 KW0
  obtain⟨k,hk,rfl,va,vk,xs,rfl,R,KW⟩:=hrel
  by_cases h:k<n
  ·have x0:=(HS.out.mono KW.out (Nat.le_refl _)).cell k h
   have ix:=fun W=>ixN HS.out k c h W
   go_wp2_with (first
    | (go_at_call 64;(with_reducible refine (of_any _ (q k) _ (HQ.out.txt k h)).mono ?_);rintro e w2 ⟨s2,a2,n2,c2,t2,b2,l2,k2,rfl,Q2,hb2⟩;have KW2:=Lib.hid ((KW.out.trans (hb2.out.mono KW.out.size)).alloc (KW.out.trans (hb2.out.mono KW.out.size)).size (.cells #[.bool s2,.slice a2 n2 c2,.bool t2,.slice b2 l2 k2] 40));have R2:=Lib.hid ((R.out.below hb2.out).alloc (.cells #[.bool s2,.slice a2 n2 c2,.bool t2,.slice b2 l2 k2] 40));have NEW:=Lib.hid (own4_rd (own4_new w2 w2.heap.size rfl (.bool s2) (.slice a2 n2 c2) (.bool t2) (.slice b2 l2 k2) 40));have Q3:=Lib.hid (Q2.out.alloc (.cells #[.bool s2,.slice a2 n2 c2,.bool t2,.slice b2 l2 k2] 40));have HA3:Hid (w.heap.size≤(w2.alloc (.cells #[.bool s2,.slice a2 n2 c2,.bool t2,.slice b2 l2 k2] 40)).heap.size):=Lib.hid KW2.out.size)
    | (at_builtin;go_loud (refine wpList_append_kindz rfl (.tmp 12) (.tmp 18) 32 rfl w.heap.size 40 i0 (.agg #[.bool false,.slice none 0 0,.bool false,.slice none 0 0]) 4 64 Tryz.underlying32 hi hz0 hz1 hz2 rfl (by decide) (.slice va k vk) k xs rfl R2.out.own R2.out.kind (noInt_4 _ _ _ _ _ _ _ _) ⟨w2.heap.size,0,none⟩ 1 1 [.bool s2,.slice a2 n2 c2,.bool t2,.slice b2 l2 k2] rfl rfl (cells4' NEW.out) (one4' _ _ _ _ rfl rfl rfl rfl) (noInt_4 _ _ _ _ _ _ _ _) (by unfold maxLen;omega) (by omega) HA3.out (by omega) ?_;intro v' w7 hown hgrow hblk hkind;obtain⟨va',vk',rfl⟩:=own_shape hown;have HOWN:=Lib.hid hown;have HGROW:=Lib.hid hgrow;have HKIND:=Lib.hid hkind;clear hown hgrow hblk hkind)))
   go_roundw
   case rel=>exact⟨k+1,by omega,by go_num,va',vk',_,rfl,Lib.hid (R2.out.push Q3.out rfl rfl HGROW.out HOWN.out HKIND.out),Lib.hid (KW2.out.grown HGROW.out HA3.out (fun kk e=>(R2.out.own.lt kk e).1))⟩
   case measure=>simp [intOf];omega
  ·obtain rfl:n=k:=by omega
   go_wp2
   go_ret
   exact⟨va,vk,xs,rfl,R.out,KW.out⟩
theorem Strs.mono {w w':World} {v:Value} {n B:Nat} {ss:Nat→ByteArray} (h:Strs w v n ss) (hb:Below B w w') (hB:w.heap.size≤B):Strs w' v n ss:=Sl.mono h hb hB
end Go.Proofs.YtgmopcncbpdniaaGreat
namespace Go.Proofs.YtgmopcncbpdniaaGreat
open Go.RowKit
structure VSl (w:World) (v:Value) (n:Nat) (q:Nat→Rat) (K:Nat):Prop where
 val:∃ g cap,v = .slice (some ⟨g,0,none⟩) n cap∧n≤cap∧g<w.heap.size∧∀ j,j<n→∃ s a m c t a2 m2 c2,w.cell? ⟨g,j*4,none⟩=some (.bool s)∧w.cell? ⟨g,j*4+1,none⟩=some (.slice a m c)∧w.cell? ⟨g,j*4+2,none⟩=some (.bool t)∧w.cell? ⟨g,j*4+3,none⟩=some (.slice a2 m2 c2)∧QV w (.agg #[.bool s,.slice a m c,.bool t,.slice a2 m2 c2]) (q j) K
variable {w w':World} {base r K:Nat} {v:Value} {q:Nat→Rat} {xs:List Value}
variable {n:Nat}
theorem VSl.mono {B:Nat} (h:VSl w v n q K) (hb:Below B w w') (hB:w.heap.size≤B):VSl w' v n q K:=by
 obtain⟨g,cap,rfl,h1,h2,h3⟩:=h.val
 refine⟨g,cap,rfl,h1,Nat.lt_of_lt_of_le h2 hb.size,fun j hj=>?_⟩
 obtain⟨s,a,m,c,t,a2,m2,c2,k1,k2,k3,k4,k5⟩:=h3 j hj
 have k:∀ i,w'.cell? ⟨g,i,none⟩=w.cell? ⟨g,i,none⟩:=fun i=>hb.cell (p:=⟨g,i,none⟩) (Nat.lt_of_lt_of_le h2 hB)
 exact⟨s,a,m,c,t,a2,m2,c2,(k _).trans k1,(k _).trans k2,(k _).trans k3,(k _).trans k4,k5.mono hb hB⟩
theorem VSl.of (h:QSl w v n (qN q) (qD q) K):VSl w v n q K:=by
 obtain⟨g,cap,rfl,h1,h2,h3⟩:=h.val
 refine⟨g,cap,rfl,h1,h2,fun j hj=>?_⟩
 obtain⟨s,a,m,c,t,a2,m2,c2,k1,k2,k3,k4,k5⟩:=h3 j hj
 exact⟨s,a,m,c,t,a2,m2,c2,k1,k2,k3,k4,QV.of k5⟩
end Go.Proofs.YtgmopcncbpdniaaGreat
namespace Go.Proofs.YtgmopcncbpdniaaGreat
open Go.RowKit
attribute [local go_sem ↓] Go.wp_at_zero Go.wp_at_succ
theorem low_parts {p d:Int} {q:Rat} (hd:0<d) (h:(p:Rat)=q*(d:Rat)):p / ((Int.gcd p d:Nat):Int)=q.num∧d / ((Int.gcd p d:Nat):Int)=((q.den:Nat):Int):=by
 have e:q=Rat.divInt p d:=by
  rw [Rat.divInt_eq_div,h,Rat.div_def,Rat.mul_assoc,Rat.mul_inv_cancel _ (rat_ne hd),Rat.mul_one]
 rw [e,Rat.num_divInt,Rat.den_divInt,Int.gcd_comm d p]
 have hs:d.sign=1:=Int.sign_eq_one_of_pos hd
 refine⟨by rw [hs,Int.one_mul],?_⟩
 rw [if_neg (by omega)]
 obtain⟨D,rfl⟩:=Int.eq_ofNat_of_zero_le (Int.le_of_lt hd)
 rw [Int.natAbs_natCast,←Int.natCast_ediv]
theorem qv_low (x:Value) (q:Rat) (k:Nat) (w:World) (hx:QV w x q k) (hk:k≤274877906940) :
  Calls Tryz.prog 50 #[x] w fun ex w'=>∃ r,ex = .returned r∧QIs w' r q.num ((q.den:Nat):Int) k∧Below w.heap.size w w':=by
 obtain⟨p,d,h,e⟩:=hx
 have hd:=h.pos
 refine (qlow_any x p d k w h hk).mono ?_
 rintro ex w' ⟨r,rfl,hr,hb⟩
 obtain⟨e1,e2⟩:=low_parts hd e
 rw [e1,e2] at hr
 exact⟨r,rfl,hr,hb⟩
theorem ZIs.sign {w:World} {s:Bool} {u:Value} {z:Int} {m:Nat} (h:ZIs w (.agg #[.bool s,u]) z m):s=decide (z<0):=by
 obtain⟨u',e,_⟩:=h
 injection e with e
 injection e with e
 simp only [List.cons.injEq,and_true] at e
 obtain⟨e,_⟩:=e
 injection e
set_option maxHeartbeats 2000000 in
theorem over_pos (x y:Value) (p d:Int) (k:Nat) (w:World) (hx:ZIs w x p k) (hy:ZIs w y d k) (hd:0<d) :
  Calls Tryz.prog 82 #[x,y] w fun ex w'=>∃ r,ex = .returned r∧QIs w' r p d k∧Below w.heap.size w w':=by
 obtain⟨s1,a1,n1,c1,rfl,HA⟩:=hx.shape
 obtain⟨s2,a2,n2,c2,rfl,HB⟩:=hy.shape
 clear hx hy
 obtain rfl:s2=false:=by rw [HB.out.sign];simp;omega
 have HD:=Lib.hid hd
 clear hd
 have KW:=Lib.hid (boxes3 w (Obj.cells #[.bool s1,.slice a1 n1 c1] 38) (Obj.cells #[.bool false,.slice a2 n2 c2] 38) (Obj.cells #[.bool false,.slice none 0 0,.bool false,.slice none 0 0] 40))
 go_enter Tryz.func82,Tryz.ntmps82
 go_wp2_with fail
 refine bodyPost_ret (v:=.agg #[.bool s1,.slice a1 n1 c1,.bool false,.slice a2 n2 c2]) (by simp [results,Tryz.results82,go_sem]) rfl ?_
 exact⟨_,rfl,⟨_,_,_,_,rfl,HA.out.mono (boxes3 w _ _ _) (Nat.le_refl _),HB.out.mono (boxes3 w _ _ _) (Nat.le_refl _),HD.out⟩,boxes3 w _ _ _⟩
set_option maxHeartbeats 2000000 in
theorem over_neg (x y:Value) (p d:Int) (k:Nat) (w:World) (hx:ZIs w x p k) (hy:ZIs w y d k) (hd:d<0) :
  Calls Tryz.prog 82 #[x,y] w fun ex w'=>∃ r,ex = .returned r∧QIs w' r (-p) (-d) k∧Below w.heap.size w w':=by
 obtain⟨s1,a1,n1,c1,rfl,HA⟩:=hx.shape
 obtain⟨s2,a2,n2,c2,rfl,HB⟩:=hy.shape
 clear hx hy
 obtain rfl:s2=true:=by rw [HB.out.sign];simp;omega
 have HD:Hid (0 < -d):=Lib.hid (by omega)
 clear hd
 have KW:Hid (Below w.heap.size w (((w.alloc (Obj.cells #[.bool s1,.slice a1 n1 c1] 38)).alloc (Obj.cells #[.bool true,.slice a2 n2 c2] 38)).alloc (Obj.cells #[.bool false,.slice none 0 0,.bool false,.slice none 0 0] 40))):=boxes3 w _ _ _
 have KA:=Lib.hid (HA.out.mono KW.out (Nat.le_refl _))
 have KB:=Lib.hid (HB.out.mono KW.out (Nat.le_refl _))
 have O1:Hid (Own2 (((w.alloc (Obj.cells #[.bool s1,.slice a1 n1 c1] 38)).alloc (Obj.cells #[.bool true,.slice a2 n2 c2] 38)).alloc (Obj.cells #[.bool false,.slice none 0 0,.bool false,.slice none 0 0] 40)) w.heap.size (.bool s1) (.slice a1 n1 c1)):=((own2_new _ _ rfl _ _ _).alloc _).alloc _
 have O2:Hid (Own2 (((w.alloc (Obj.cells #[.bool s1,.slice a1 n1 c1] 38)).alloc (Obj.cells #[.bool true,.slice a2 n2 c2] 38)).alloc (Obj.cells #[.bool false,.slice none 0 0,.bool false,.slice none 0 0] 40)) (w.heap.size+1) (.bool true) (.slice a2 n2 c2)):=(own2_new _ _ (by simp) _ _ _).alloc _
 have O3:Hid (Own4 (((w.alloc (Obj.cells #[.bool s1,.slice a1 n1 c1] 38)).alloc (Obj.cells #[.bool true,.slice a2 n2 c2] 38)).alloc (Obj.cells #[.bool false,.slice none 0 0,.bool false,.slice none 0 0] 40)) (w.heap.size+1+1) (.bool false) (.slice none 0 0) (.bool false) (.slice none 0 0)):=own4_new _ _ (by simp) _ _ _ _ _
 clear HA HB
 go_enter Tryz.func82,Tryz.ntmps82
 go_wp2
 have KW:=Lib.hid KW.out.drew
 have KA:=Lib.hid KA.out.drew
 have KB:=Lib.hid KB.out.drew
 have O1:=Lib.hid O1.out.drew
 have O2:=Lib.hid O2.out.drew
 have O3:=Lib.hid O3.out.drew
 have x10:=O1.out.c0;have x11:=O1.out.c1;have xl1:=O1.out.lt;have xf1:=O1.out.f
 have x20:=O2.out.c0;have x21:=O2.out.c1;have xl2:=O2.out.lt;have xf2:=O2.out.f
 go_region_with (first
  | (go_at_call 93;have X1:=KA.out;clear KA;(with_reducible refine (zneg_any _ p k _ X1).mono ?_);clear X1;rintro e w3 ⟨r3,rfl,hr3,hb3⟩;obtain⟨s3,a3,n3,c3,rfl,KA2⟩:=hr3.shape;clear hr3;have KB:=Lib.hid (KB.out.mono hb3 (Nat.le_refl _));have O1:=Lib.hid (O1.out.below hb3 O1.out.lt);have O2:=Lib.hid (O2.out.below hb3 O2.out.lt);have O3:=Lib.hid (O3.out.below hb3 O3.out.lt);have KW:=Lib.hid (KW.out.trans (hb3.mono KW.out.size));clear x10 x11 xl1 xf1 x20 x21 xl2 xf2;have x10:=O1.out.c0;have x11:=O1.out.c1;have xl1:=O1.out.lt;have xf1:=O1.out.f;have x20:=O2.out.c0;have x21:=O2.out.c1;have xl2:=O2.out.lt;have xf2:=O2.out.f)
  | (go_at_call 93;have X1:=KB.out;clear KB;(with_reducible refine (zneg_any _ d k _ X1).mono ?_);clear X1;rintro e w4 ⟨r4,rfl,hr4,hb4⟩;obtain⟨s4,a4,n4,c4,rfl,KB2⟩:=hr4.shape;clear hr4;have KA2:=Lib.hid (KA2.out.mono hb4 (Nat.le_refl _));have O1:=Lib.hid (O1.out.below hb4 O1.out.lt);have O2:=Lib.hid (O2.out.below hb4 O2.out.lt);have O3:=Lib.hid (O3.out.below hb4 O3.out.lt);have KW:=Lib.hid (KW.out.trans (hb4.mono KW.out.size));clear x10 x11 xl1 xf1 x20 x21 xl2 xf2;have x10:=O1.out.c0;have x11:=O1.out.c1;have xl1:=O1.out.lt;have xf1:=O1.out.f;have x20:=O2.out.c0;have x21:=O2.out.c1;have xl2:=O2.out.lt;have xf2:=O2.out.f))
 all_goals
  have O2':=O2.out.off2 (b':=w.heap.size) (by omega) (.bool s3) (.slice a3 n3 c3)
  have NA:=Lib.hid ((KA2.out.off2 O1.out (noInt_bool _) (noInt_slice _ _ _) (.bool s3) (.slice a3 n3 c3)).off2 O2' (noInt_bool _) (noInt_slice _ _ _) (.bool s4) (.slice a4 n4 c4))
  have NB:=Lib.hid ((KB2.out.off2 O1.out (noInt_bool _) (noInt_slice _ _ _) (.bool s3) (.slice a3 n3 c3)).off2 O2' (noInt_bool _) (noInt_slice _ _ _) (.bool s4) (.slice a4 n4 c4))
  have Q1:=Lib.hid ((O1.out.anew2 (.bool s3) (.slice a3 n3 c3)).off2 (b':=w.heap.size+1) (by omega) (.bool s4) (.slice a4 n4 c4))
  have Q2:=Lib.hid (O2'.anew2 (.bool s4) (.slice a4 n4 c4))
  have Q3:=Lib.hid ((((O3.out.setCell w.heap.size 0 (.bool s3) (by omega)).setCell w.heap.size 1 (.slice a3 n3 c3) (by omega)).setCell (w.heap.size+1) 0 (.bool s4) (by omega)).setCell (w.heap.size+1) 1 (.slice a4 n4 c4) (by omega))
  have KV:=Lib.hid ((((KW.out.setCell (p:=⟨w.heap.size,0,none⟩) (Nat.le_refl _) (.bool s3)).setCell (p:=⟨w.heap.size,1,none⟩) (Nat.le_refl _) (.slice a3 n3 c3)).setCell (p:=⟨w.heap.size+1,0,none⟩) (Nat.le_succ _) (.bool s4)).setCell (p:=⟨w.heap.size+1,1,none⟩) (Nat.le_succ _) (.slice a4 n4 c4))
  clear KA2 KB2 KW O1 O2 O3 O2' x10 x11 xl1 xf1 x20 x21 xl2 xf2 hb3 hb4
  generalize ((((w4.setCell ⟨w.heap.size,0,none⟩ (.bool s3)).setCell ⟨w.heap.size,1,none⟩ (.slice a3 n3 c3)).setCell ⟨w.heap.size+1,0,none⟩ (.bool s4)).setCell ⟨w.heap.size+1,1,none⟩ (.slice a4 n4 c4))=w5 at *
  obtain⟨x10,x11,_,xl1⟩:=Q1.out
  obtain⟨x20,x21,_,xl2⟩:=Q2.out
  obtain⟨x30,x31,x32,x33,xf3,xl3⟩:=Q3.out
  go_wp2_with fail
  refine bodyPost_ret (v:=.agg #[.bool s3,.slice a3 n3 c3,.bool s4,.slice a4 n4 c4]) (by simp [results,Tryz.results82,go_sem,x30,x31,x32,x33,xf3,xl3]) rfl ?_
  exact⟨_,rfl,⟨_,_,_,_,rfl,NA.out.store4 Q3.out _ _ _ _,NB.out.store4 Q3.out _ _ _ _,HD.out⟩,below_set4q KV.out (by omega) _ _ _ _⟩
theorem over_any (x y:Value) (p d:Int) (k:Nat) (w:World) (hx:ZIs w x p k) (hy:ZIs w y d k) (hd:d≠0) :
  Calls Tryz.prog 82 #[x,y] w fun ex w'=>∃ r P D,ex = .returned r∧QIs w' r P D k∧P*d=p*D∧Below w.heap.size w w':=by
 rcases Int.lt_or_gt_of_ne hd with h | h
 ·refine (over_neg x y p d k w hx hy h).mono ?_
  rintro ex w' ⟨r,rfl,hr,hb⟩
  exact⟨r,_,_,rfl,hr,by rw [Int.neg_mul,Int.mul_neg],hb⟩
 ·refine (over_pos x y p d k w hx hy h).mono ?_
  rintro ex w' ⟨r,rfl,hr,hb⟩
  exact⟨r,_,_,rfl,hr,rfl,hb⟩
set_option maxHeartbeats 1000000 in
theorem make_any (v u:Int) (w:World) (h1 : -9223372036854775808≤v) (h2:v<9223372036854775808) (h3 : -9223372036854775808≤u) (h4:u<9223372036854775808) (hu:u≠0) :
  Calls Tryz.prog 49 #[.int .i64 v,.int .i64 u] w fun ex w'=>∃ r,ex = .returned r∧QIs w' r ((v:Rat) / (u:Rat)).num ((((v:Rat) / (u:Rat)).den:Nat):Int) 5∧Below w.heap.size w w':=by
 have H12:=Lib.hid (And.intro h1 h2)
 have H34:=Lib.hid (And.intro h3 h4)
 have HU:=Lib.hid hu
 have O4:=Lib.hid (own4_new w w.heap.size rfl (.bool false) (.slice none 0 0) (.bool false) (.slice none 0 0) 40)
 have KW:=Lib.hid (boxes1 w (.cells #[.bool false,.slice none 0 0,.bool false,.slice none 0 0] 40))
 clear h1 h2 h3 h4 hu
 go_enter Tryz.func49,Tryz.ntmps49
 go_wp2_with fail
 refine (zint_any v H12.out.1 H12.out.2 _).mono ?_
 rintro e w1 ⟨r1,rfl,hr1,hb1⟩
 obtain⟨s1,a1,n1,c1,rfl,K1⟩:=hr1.shape
 have O4:=Lib.hid (O4.out.below hb1 O4.out.lt)
 have KW:=Lib.hid (KW.out.trans (hb1.mono KW.out.size))
 clear hr1 hb1
 go_wp2_with fail
 refine (zint_any u H34.out.1 H34.out.2 _).mono ?_
 rintro e w2 ⟨r2,rfl,hr2,hb2⟩
 obtain⟨s2,a2,n2,c2,rfl,K2⟩:=hr2.shape
 have K1:=Lib.hid (K1.out.mono hb2 (Nat.le_refl _))
 have O4:=Lib.hid (O4.out.below hb2 O4.out.lt)
 have KW:=Lib.hid (KW.out.trans (hb2.mono KW.out.size))
 clear hr2 hb2
 go_wp2_with fail
 refine (over_any _ _ v u 5 _ K1.out K2.out HU.out).mono ?_
 rintro e w3 ⟨r3,P,D,rfl,hr3,hv3,hb3⟩
 have hD:=hr3.pos
 have HV:Hid (QV w3 r3 ((v:Rat) / (u:Rat)) 5):=Lib.hid ⟨P,D,hr3,by
  have h3:((P*u:Int):Rat)=((v*D:Int):Rat):=by rw [hv3]
  rw [Rat.intCast_mul,Rat.intCast_mul] at h3
  have n1:(u:Rat)≠0:=fun e=>by
   have:((u:Int):Rat)=((0:Int):Rat):=e
   exact HU.out (Rat.intCast_inj.1 this)
  have h4:=Rat.mul_inv_cancel _ n1
  rw [Rat.div_def]
  have h5:(P:Rat)=(P:Rat)*(u:Rat)*(u:Rat)⁻¹:=by rw [Rat.mul_assoc,h4];grind
  rw [h5,h3];grind⟩
 obtain⟨s3,a3,n3,c3,t3,a4,n4,c4,rfl,HV⟩:=HV.out.shape
 have O4:=Lib.hid (O4.out.below hb3 O4.out.lt)
 have KW:=Lib.hid (KW.out.trans (hb3.mono KW.out.size))
 clear hr3 hv3 hb3 hD K1 K2
 go_wp2_with fail
 refine (qv_low _ _ 5 _ HV.out (by omega)).mono ?_
 rintro e w4 ⟨r4,rfl,hr4,hb4⟩
 obtain⟨s5,a5,n5,c5,t5,a6,n6,c6,rfl,HN,HD,hd⟩:=hr4.shape
 have hd:=Lib.hid hd
 have O4:=Lib.hid (O4.out.below hb4 O4.out.lt)
 have KW:=Lib.hid (KW.out.trans (hb4.mono KW.out.size))
 clear hr4 hb4
 obtain⟨x0,x1,x2,x3,xf,xl⟩:=O4.out
 go_wp2_with fail
 refine bodyPost_ret (v:=.agg #[.bool s5,.slice a5 n5 c5,.bool t5,.slice a6 n6 c6]) (by simp [results,Tryz.results49,go_sem,x0,x1,x2,x3,xf,xl]) rfl ?_
 exact⟨_,rfl,⟨_,_,_,_,rfl,HN.out.store4 O4.out _ _ _ _,HD.out.store4 O4.out _ _ _ _,hd.out⟩,below_set4q KW.out (by omega) _ _ _ _⟩
end Go.Proofs.YtgmopcncbpdniaaGreat
