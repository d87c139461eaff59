import Derived.Test.YtgmopcncbpdniaaGreatJInt3
import Derived.Deep.LoopGhost
import Derived.Deep.DeepCutAuto
import Derived.Deep.CutBlock
set_option linter.unusedVariables false
set_option linter.unusedSimpArgs false
namespace Go.Proofs.YtgmopcncbpdniaaGreat
open Go.RowKit
attribute [local go_sem ↓] Go.wp_at_zero Go.wp_at_succ
theorem IntIs.shape {w:World} {v:Value} {z:Int} {m:Nat} (h:IntIs w v z m):∃ s a n c,v = .agg #[.bool s,.slice a n c]∧Hid (IntIs w (.agg #[.bool s,.slice a n c]) z m):=by
 have h0:=h
 obtain⟨u,rfl,⟨a,b,o,c,rfl,hs⟩,h2⟩:=h
 exact⟨_,a,_,c,rfl,h0⟩
set_option maxHeartbeats 2000000 in
theorem int_sub (x y:Value) (p q:Int) (k:Nat) (w:World) (ha:IntIs w x p k) (hb:IntIs w y q k) (hk:k≤549755813888) :
  Calls Tryz.prog 130 #[x,y] w fun e w'=>∃ r,e = .returned r∧IntIs w' r (p - q) (k+1)∧Below w.heap.size w w':=by
 obtain⟨s1,a1,n1,c1,rfl,HA⟩:=ha.shape
 obtain⟨s2,a2,n2,c2,rfl,HQ⟩:=hb.shape
 clear ha hb
 have HB:Hid (Below w.heap.size w (((w.alloc (Obj.cells #[Value.bool s1,Value.slice a1 n1 c1] 90)).alloc (Obj.cells #[Value.bool s2,Value.slice a2 n2 c2] 90)).alloc (Obj.cells #[.bool false,.slice none 0 0] 90))):=boxes3 w _ _ _
 go_enter Tryz.func130,Tryz.ntmps130
 go_wp2
 go_region_held3 (fun w'=>w'.cell? ⟨w.heap.size,0,none⟩=some (.bool s1)∧w'.cell? ⟨w.heap.size,1,none⟩=some (.slice a1 n1 c1)∧w'.cell? ⟨w.heap.size+1,0,none⟩=some (.bool s2)∧w'.cell? ⟨w.heap.size+1,1,none⟩=some (.slice a2 n2 c2)) (go_keep)
  (first
   | (go_at_call 123;refine (int_neg _ q k _ ((HQ.out.mono HB.out (Nat.le_refl _)).drawn (Drawn.of _ 1))).mono ?_;rintro e w1 ⟨r,rfl,hr,hb1⟩;obtain⟨q1,q2,q3,q4,q5,q6,hz1,HB1⟩:=kept3 (w:=w) hb1 (by simp) HB.out.drew)
   | (go_at_call 98;refine (int_add _ _ p (-q) k _ (HA.out.mono HB1.out (Nat.le_refl _)) hr hk).mono ?_;rintro e w2 ⟨r2,rfl,hr2,hb2⟩;obtain⟨s3,a3,n3,c3,rfl,H3⟩:=hr2.shape;clear hr2;obtain⟨p1,p2,p3,p4,p5,p6,hz2,HB2⟩:=kept3 (w:=w) hb2 hz1 HB1.out))
 go_wp2
 refine bodyPost_ret (v:=.agg #[.bool s3,.slice a3 n3 c3]) (by simp [results,Tryz.results130,go_sem,q1,q2,q3,q4,q5,q6,p1,p2,p3,p4,p5,p6]) rfl ?_
 refine⟨_,rfl,?_,(HB2.out.setCell (by simp;omega) _).setCell (by simp;omega) _⟩
 exact H3.out.store2 _ _ (v0:=.bool false) (v1:=.slice none 0 0) (by rw [p3,q3];simp [go_sem]) (by rw [p3,q3];simp [go_sem]) (noInt_bool _) (noInt_slice _ _ _)
set_option maxHeartbeats 2000000 in
theorem mul_any (u v:Value) (s t:Bool) (x y:Nat) (w:World) (hu:Mag w u x) (hv:Mag w v y) (bxy:nl x+nl y≤1099511627776) :
  Calls Tryz.prog 100 #[.agg #[.bool s,u],.agg #[.bool t,v]] w fun e w'=>∃ r,e = .returned (.agg #[.bool ((s != t) && decide (0<x*y)),r])∧Mag w' r (x*y)∧Below w.heap.size w w':=by
 have HU:=Lib.hid hu
 have HV:=Lib.hid hv
 obtain⟨a1,b1,o1,c1,rfl,i1⟩:=hu
 obtain⟨a2,b2,o2,c2,rfl,i2⟩:=hv
 have HB:Hid (Below w.heap.size w (((w.alloc (Obj.cells #[Value.bool s,Value.slice a1 (nl x) c1] 90)).alloc (Obj.cells #[Value.bool t,Value.slice a2 (nl y) c2] 90)).alloc (Obj.cells #[.bool false,.slice none 0 0] 90))):=boxes3 w _ _ _
 go_enter Tryz.func100,Tryz.ntmps100
 go_wp2
 go_region_held3 (fun w'=>w'.cell? ⟨w.heap.size,0,none⟩=some (.bool s)∧w'.cell? ⟨w.heap.size,1,none⟩=some (.slice a1 (nl x) c1)∧w'.cell? ⟨w.heap.size+1,0,none⟩=some (.bool t)∧w'.cell? ⟨w.heap.size+1,1,none⟩=some (.slice a2 (nl y) c2)) (go_keep)
  (first
   | (go_at_call 129;refine (times_any _ _ x y _ ((HU.out.mono HB.out (Nat.le_refl _)).drew) ((HV.out.mono HB.out (Nat.le_refl _)).drew) bxy).mono ?_;rintro e w1 ⟨r,rfl,⟨a3,b3,o3,c3,rfl,i3⟩,hb1⟩;obtain⟨q1,q2,q3,q4,q5,q6,hz1,HB1⟩:=kept3 (w:=w) hb1 (by simp) HB.out.drew)
   | (go_at_call 106;refine (made_any _ _ (x*y) _ ⟨a3,b3,o3,c3,rfl,i3⟩).mono ?_;rintro e w2 ⟨rfl,hm2,hb2⟩;obtain⟨p1,p2,p3,p4,p5,p6,hz2,HB2⟩:=kept3 (w:=w) hb2 hz1 HB1.out))
 go_wp2
 refine bodyPost_ret (v:=.agg #[.bool ((s != t) && decide (0<x*y)),.slice a3 (nl (x*y)) c3]) (by simp [results,Tryz.results100,go_sem,q1,q2,q3,q4,q5,q6,p1,p2,p3,p4,p5,p6];cases s <;> cases t <;> rfl) rfl ?_
 refine⟨_,rfl,?_,(HB2.out.setCell (by simp;omega) _).setCell (by simp;omega) _⟩
 exact hm2.store2 _ _ (v0:=.bool false) (v1:=.slice none 0 0) (by rw [p3,q3];simp [go_sem]) (by rw [p3,q3];simp [go_sem]) (noInt_bool _) (noInt_slice _ _ _)
theorem int_mul (x y:Value) (p q:Int) (k l:Nat) (w:World) (ha:IntIs w x p k) (hb:IntIs w y q l) (hk:k+l≤1099511627776) :
  Calls Tryz.prog 100 #[x,y] w fun e w'=>∃ r,e = .returned r∧IntIs w' r (p*q) (k+l)∧Below w.heap.size w w':=by
 obtain⟨u,rfl,hu,bu⟩:=ha
 obtain⟨v,rfl,hv,bv⟩:=hb
 refine (mul_any u v _ _ _ _ w hu hv (by omega)).mono ?_
 rintro e w' ⟨r,rfl,hm,hb⟩
 refine⟨_,rfl,IntIs.mk ?_ hm (nl_mul _ _ _ _ bu bv),hb⟩
 have e1:=sgn_of p
 have e2:=sgn_of q
 conv=>lhs;rw [←e1,←e2]
 unfold sgn
 by_cases h1:p<0 <;> by_cases h2:q<0 <;> simp [h1,h2,Int.neg_mul,Int.mul_neg]
def sgnZ (z:Int):Int:=if z=0 then 0 else if z<0 then -1 else 1
theorem int_sign (x:Value) (p:Int) (k:Nat) (w:World) (ha:IntIs w x p k) :
  Calls Tryz.prog 131 #[x] w fun e w'=>e = .returned (.int .i64 (sgnZ p))∧Below w.heap.size w w':=by
 obtain⟨u,rfl,⟨a1,b1,o1,c1,rfl,i1⟩,bu⟩:=ha
 have HB:=Lib.hid (fun (s:Bool)=>boxes1 w (Obj.cells #[Value.bool s,Value.slice a1 (nl p.natAbs) c1] 90))
 have hz:=nl_eq_zero p.natAbs
 by_cases h0:p=0
 ·have hn:(((nl p.natAbs:Nat):Int) == 0)=true:=by rw [h0];rfl
  have H0:=Lib.hid h0
  generalize decide (p<0)=s
  clear h0 hz i1
  go_enter Tryz.func131,Tryz.ntmps131
  go_wp2
  go_ret
  exact⟨by simp [sgnZ,H0.out],HB.out _⟩
 ·have hn:(((nl p.natAbs:Nat):Int) == 0)=false:=by simp;intro q;exact h0 (by have:=hz.1 q;omega)
  by_cases h1:p<0
  ·have e1:decide (p<0)=true:=by simpa using h1
   rw [e1]
   have H0:=Lib.hid h0
   have H1:=Lib.hid h1
   clear h0 hz i1 h1 e1
   go_enter Tryz.func131,Tryz.ntmps131
   go_wp2
   go_ret
   exact⟨by simp [sgnZ,H0.out,H1.out],HB.out _⟩
  ·have e1:decide (p<0)=false:=by simpa using h1
   rw [e1]
   have H0:=Lib.hid h0
   have H1:=Lib.hid h1
   clear h0 hz i1 h1 e1
   go_enter Tryz.func131,Tryz.ntmps131
   go_wp2
   go_ret
   exact⟨by rw [show sgnZ p=1 from by unfold sgnZ;rw [if_neg H0.out,if_neg (by have:=H1.out;omega)]];rfl,HB.out _⟩
theorem int_cmp (x y:Value) (p q:Int) (k:Nat) (w:World) (ha:IntIs w x p k) (hb:IntIs w y q k) (hk:k≤549755813888) :
  Calls Tryz.prog 101 #[x,y] w fun e w'=>e = .returned (.int .i64 (sgnZ (p - q)))∧Below w.heap.size w w':=by
 obtain⟨s1,a1,n1,c1,rfl,HA⟩:=ha.shape
 obtain⟨s2,a2,n2,c2,rfl,HQ⟩:=hb.shape
 clear ha hb
 have HB:Hid (Below w.heap.size w ((w.alloc (Obj.cells #[Value.bool s1,Value.slice a1 n1 c1] 90)).alloc (Obj.cells #[Value.bool s2,Value.slice a2 n2 c2] 90))):=boxes2 w _ _
 go_enter Tryz.func101,Tryz.ntmps101
 go_wp2_with (first | (go_at_call 130;refine (int_sub _ _ p q k _ (HA.out.mono HB.out (Nat.le_refl _)) (HQ.out.mono HB.out (Nat.le_refl _)) hk).mono ?_;rintro e w1 ⟨r,rfl,hr,hb1⟩) | (go_at_call 131;refine (int_sign _ (p - q) (k+1) _ hr).mono ?_;rintro e w2 ⟨rfl,hb2⟩))
 go_ret
 exact⟨rfl,HB.out.trans ((hb1.mono (by simp;omega)).trans (hb2.mono (by have:=hb1.size;simp at this;omega)))⟩
end Go.Proofs.YtgmopcncbpdniaaGreat
namespace Go.Proofs.YtgmopcncbpdniaaGreat
open Go.RowKit
attribute [local go_sem ↓] Go.wp_at_zero Go.wp_at_succ
theorem isSl_two (N:Nat) (hN:N<4611686018427387904) {w:World} {b:Nat} (h0:w.cell? ⟨b,0,none⟩=some (.int .u32 ((N % 4294967296:Nat):Int))) (h1:w.cell? ⟨b,1,none⟩=some (.int .u32 ((N / 4294967296:Nat):Int))) (hb:b<w.heap.size) :
  IsSl w (some ⟨b,0,none⟩) b 0 2 2 (fun i=>.int .u32 (dig N i:Nat)):=
 ⟨Nat.le_refl _,fun _=>rfl,fun _=>hb,fun i hi=>by
  match i,hi with
  | 0,_=>rw [h0];simp [dig]
  | 1,_=>
   rw [h1]
   have:N / 4294967296 % 4294967296=N / 4294967296:=Nat.mod_eq_of_lt (by omega)
   simp [dig,this],fun e=>by cases e⟩
theorem of_pos (N:Nat) (hN:N<4611686018427387904) (w:World) :
  Calls Tryz.prog 94 #[.int .i64 (N:Nat)] w fun e w'=>∃ r,e = .returned r∧IntIs w' r N 2∧Below w.heap.size w w':=by
 have hn2:nl N≤2:=by rw [nl_le];omega
 have hv:valF (dig N) 2=N:=valF_dig_le N 2 hn2
 have HN:=Lib.hid hN
 have hN2:(N:Int)≤4611686018427387903:=by omega
 have hdn:decide ((N:Int)<0)=false:=by simp
 clear hN
 have HV:=Lib.hid hv
 have HN2:=Lib.hid hn2
 clear hv hn2
 go_enter Tryz.func94,Tryz.ntmps94
 go_wp2_with fail
 refine (trim_any _ (w.heap.size+1) 0 2 2 (dig N) _ (by omega) (isSl_two N HN.out (by simp [go_sem]) (by simp [go_sem]) (by simp))).mono ?_
 rintro e w' ⟨rfl,hww⟩
 have hww2:=hww.symm
 clear hww
 subst hww2
 go_wp2_with fail
 refine (made_any _ _ N _ ?_).mono ?_
 ·have:=trim_mag (fun i _=>dig_lt N i) (isSl_two N HN.out (w:=(w.alloc (Obj.cells #[Value.bool false,Value.slice none 0 0] 90)).alloc (Obj.cells #[Value.int IntKind.u32 ((N:Int) % 4294967296),Value.int IntKind.u32 ((N:Int) / 4294967296)] 145)) (b:=w.heap.size+1) (by simp [go_sem]) (by simp [go_sem]) (by simp))
  rw [HV.out] at this
  exact this
 ·rintro e w1 ⟨rfl,hm,hb⟩
  have q1:=fun o=>hb.cell (p:=⟨w.heap.size,o,none⟩) (by simp;omega)
  have q2:=fun o=>hb.frozen (p:=⟨w.heap.size,o,none⟩) (by simp;omega)
  have hs1:w.heap.size+2≤w1.heap.size:=by (have:=hb.size;simpa using this)
  go_wp2
  refine bodyPost_ret (v:=.agg #[.bool (false && decide (0<N)),.slice (some ⟨w.heap.size+1,0,none⟩) (trimN (dig N) 2) 2]) (by simp [results,Tryz.results94,go_sem,q1,q2]) rfl ?_
  have hbel:=(boxes2 w (Obj.cells #[Value.bool false,Value.slice none 0 0] 90) (Obj.cells #[Value.int IntKind.u32 ((N:Int) % 4294967296),Value.int IntKind.u32 ((N:Int) / 4294967296)] 145)).trans (hb.mono (by simp;omega))
  refine⟨_,rfl,?_,(hbel.setCell (by simp) _).setCell (by simp) _⟩
  exact IntIs.mk (by simp [sgn]) (hm.store2 _ _ (v0:=.bool false) (v1:=.slice none 0 0) (by rw [q1];simp [go_sem]) (by rw [q1];simp [go_sem]) (noInt_bool _) (noInt_slice _ _ _)) HN2.out
theorem of_neg (N:Nat) (hN:N<4611686018427387904) (hN0:0<N) (w:World) :
  Calls Tryz.prog 94 #[.int .i64 (-(N:Nat):Int)] w fun e w'=>∃ r,e = .returned r∧IntIs w' r (-(N:Int)) 2∧Below w.heap.size w w':=by
 have hn2:nl N≤2:=by rw [nl_le];omega
 have hv:valF (dig N) 2=N:=valF_dig_le N 2 hn2
 have HN:=Lib.hid hN
 have hN2:(N:Int)≤4611686018427387903:=by omega
 have hdn:decide (-(N:Int)<0)=true:=by simp;omega
 have hwr:IntKind.u64.wrap (-IntKind.u64.wrap (-(N:Int)))=N:=by rw [IntKind.wrap_u64,IntKind.wrap_u64];omega
 clear hN
 have HV:=Lib.hid hv
 have HN2:=Lib.hid hn2
 clear hv hn2
 go_enter Tryz.func94,Tryz.ntmps94
 go_wp2_with fail
 refine (trim_any _ (w.heap.size+1) 0 2 2 (dig N) _ (by omega) (isSl_two N HN.out (by simp [go_sem]) (by simp [go_sem]) (by simp))).mono ?_
 rintro e w' ⟨rfl,hww⟩
 have hww2:=hww.symm
 clear hww
 subst hww2
 go_wp2_with fail
 refine (made_any _ _ N _ ?_).mono ?_
 ·have:=trim_mag (fun i _=>dig_lt N i) (isSl_two N HN.out (w:=(w.alloc (Obj.cells #[Value.bool false,Value.slice none 0 0] 90)).alloc (Obj.cells #[Value.int IntKind.u32 ((N:Int) % 4294967296),Value.int IntKind.u32 ((N:Int) / 4294967296)] 145)) (b:=w.heap.size+1) (by simp [go_sem]) (by simp [go_sem]) (by simp))
  rw [HV.out] at this
  exact this
 ·rintro e w1 ⟨rfl,hm,hb⟩
  have q1:=fun o=>hb.cell (p:=⟨w.heap.size,o,none⟩) (by simp;omega)
  have q2:=fun o=>hb.frozen (p:=⟨w.heap.size,o,none⟩) (by simp;omega)
  have hs1:w.heap.size+2≤w1.heap.size:=by (have:=hb.size;simpa using this)
  go_wp2
  refine bodyPost_ret (v:=.agg #[.bool (true && decide (0<N)),.slice (some ⟨w.heap.size+1,0,none⟩) (trimN (dig N) 2) 2]) (by simp [results,Tryz.results94,go_sem,q1,q2];exact hN0) rfl ?_
  have hbel:=(boxes2 w (Obj.cells #[Value.bool false,Value.slice none 0 0] 90) (Obj.cells #[Value.int IntKind.u32 ((N:Int) % 4294967296),Value.int IntKind.u32 ((N:Int) / 4294967296)] 145)).trans (hb.mono (by simp;omega))
  refine⟨_,rfl,?_,(hbel.setCell (by simp) _).setCell (by simp) _⟩
  exact IntIs.mk (by simp [sgn]) (hm.store2 _ _ (v0:=.bool false) (v1:=.slice none 0 0) (by rw [q1];simp [go_sem]) (by rw [q1];simp [go_sem]) (noInt_bool _) (noInt_slice _ _ _)) HN2.out
theorem int_of (n:Int) (h1 : -4611686018427387904<n) (h2:n<4611686018427387904) (w:World) :
  Calls Tryz.prog 94 #[.int .i64 n] w fun e w'=>∃ r,e = .returned r∧IntIs w' r n 2∧Below w.heap.size w w':=by
 by_cases h:0≤n
 ·obtain⟨N,rfl⟩:=Int.eq_ofNat_of_zero_le h
  exact of_pos N (by omega) w
 ·obtain⟨N,hN⟩:=Int.eq_ofNat_of_zero_le (a:=-n) (by omega)
  obtain rfl:n = -(N:Int):=by omega
  exact of_neg N (by omega) (by omega) w
set_option maxHeartbeats 1000000 in
theorem int_gcd (x y:Value) (p q:Int) (k:Nat) (w:World) (ha:IntIs w x p k) (hb:IntIs w y q k) (hk:k≤549755813888) :
  Calls Tryz.prog 107 #[x,y] w fun e w'=>∃ r,e = .returned r∧IntIs w' r (Int.gcd p q:Nat) k∧Below w.heap.size w w':=by
 obtain⟨u,rfl,hu,bu⟩:=ha
 obtain⟨v,rfl,hv,bv⟩:=hb
 have HU:=Lib.hid hu
 have HV:=Lib.hid hv
 obtain⟨a1,b1,o1,c1,rfl,i1⟩:=hu
 obtain⟨a2,b2,o2,c2,rfl,i2⟩:=hv
 obtain⟨s1,hs1⟩:∃ s,s=decide (p<0):=⟨_,rfl⟩
 obtain⟨s2,hs2⟩:∃ s,s=decide (q<0):=⟨_,rfl⟩
 rw [←hs1,←hs2]
 clear hs1 hs2
 have HB:Hid (Below w.heap.size w (((w.alloc (Obj.cells #[Value.bool s1,Value.slice a1 (nl p.natAbs) c1] 90)).alloc (Obj.cells #[Value.bool s2,Value.slice a2 (nl q.natAbs) c2] 90)).alloc (Obj.cells #[.bool false,.slice none 0 0] 90))):=boxes3 w _ _ _
 go_enter Tryz.func107,Tryz.ntmps107
 go_wp2
 go_quiet (fail)
 go_wp2
 go_loopg [5,6] q.natAbs (fun g xv yv wr=>∃ X:Nat,Mag wr xv X∧Mag wr yv g∧nl X≤k∧nl g≤k∧Hid (Nat.gcd X g=Nat.gcd p.natAbs q.natAbs)∧w.heap.size+3≤wr.heap.size∧Hid (Below w.heap.size w wr)∧
   wr.cell? ⟨w.heap.size+1+1,0,none⟩=some (.bool false)∧wr.cell? ⟨w.heap.size+1+1,1,none⟩=some (.slice none 0 0)∧(∀ o,wr.frozen? ⟨w.heap.size+1+1,o,none⟩=false))
 case atStart=>exact⟨p.natAbs,(HU.out.mono HB.out (Nat.le_refl _)).drawn (Drawn.of _ _),(HV.out.mono HB.out (Nat.le_refl _)).drawn (Drawn.of _ _),bu,bv,rfl,by simp,below_drawN HB.out _,by simp [go_sem],by simp [go_sem],fun o=>by simp [go_sem]⟩
 case round=>
  obtain⟨X,hX,hY,bX,bY,HG,hsz,HBW,hc0,hc1,hfz⟩:=hrel
  have HX:=Lib.hid hX
  have HY:=Lib.hid hY
  obtain⟨ax,bx,ox,cx,rfl,ix⟩:=hX
  obtain⟨ay,b_y,oy,cy,rfl,iy⟩:=hY
  clear ix iy i1 i2
  by_cases h0:0<gk
  ·have hn:0<nl gk:=(nl_pos _).2 h0
   go_wp2_with (go_at_call 134;refine (part_any _ _ X gk _ HX.out HY.out h0 (by omega) (by omega)).mono ?_;rintro e w1 ⟨qv,rv,rfl,hq,hr,hb⟩)
   go_roundg (X % gk)
   case measure=>exact Nat.mod_lt _ h0
   case rel=>
    refine⟨gk,HY.out.mono hb (Nat.le_refl _),hr,bY,Nat.le_trans (nl_mono (Nat.le_of_lt (Nat.mod_lt _ h0))) bY,?_,by have:=hb.size;omega,HBW.out.trans (hb.mono (by omega)),?_,?_,?_⟩
    ·show _=_
     rw [←HG.out,Nat.gcd_comm gk,←Nat.gcd_rec,Nat.gcd_comm]
    ·rw [hb.cell (p:=⟨_,0,none⟩) (by dsimp only;omega)];exact hc0
    ·rw [hb.cell (p:=⟨_,1,none⟩) (by dsimp only;omega)];exact hc1
    ·intro o;rw [hb.frozen (p:=⟨_,o,none⟩) (by dsimp only;omega)];exact hfz o
  ·obtain rfl:gk=0:=by omega
   go_wp2_with (go_at_call 106;refine (made_any _ _ X _ HX.out).mono ?_;rintro e w2 ⟨rfl,hm2,hb2⟩;have p1:=fun o=>hb2.cell (p:=⟨w.heap.size+1+1,o,none⟩) (by dsimp only;omega);have p2:=fun o=>hb2.frozen (p:=⟨w.heap.size+1+1,o,none⟩) (by dsimp only;omega);have hz2:=hb2.size)
   refine bodyPost_ret (v:=.agg #[.bool (false && decide (0<X)),.slice ax (nl X) cx]) (by simp [results,Tryz.results107,go_sem,p1,p2,hc0,hc1,hfz]) rfl ?_
   refine⟨_,rfl,?_,((HBW.out.trans (hb2.mono (by omega))).setCell (by simp;omega) _).setCell (by simp;omega) _⟩
   refine IntIs.mk ?_ (hm2.store2 _ _ (v0:=.bool false) (v1:=.slice none 0 0) (by rw [p1];exact hc0) (by rw [p1];exact hc1) (noInt_bool _) (noInt_slice _ _ _)) bX
   have:=HG.out
   rw [Nat.gcd_zero_right] at this
   show ((Int.gcd p q:Nat):Int)=(X:Int)
   rw [this];rfl
end Go.Proofs.YtgmopcncbpdniaaGreat
namespace Go.Proofs.YtgmopcncbpdniaaGreat
open Go.RowKit
attribute [local go_sem ↓] Go.wp_at_zero Go.wp_at_succ
theorem kept1 {W w1:World} (hb:Below W.heap.size W w1) (b:Nat) (h:b<W.heap.size) :
  (∀ o,w1.cell? ⟨b,o,none⟩=W.cell? ⟨b,o,none⟩)∧(∀ o,w1.frozen? ⟨b,o,none⟩=W.frozen? ⟨b,o,none⟩):=
 ⟨fun o=>hb.cell (p:=⟨_,o,none⟩) h,fun o=>hb.frozen (p:=⟨_,o,none⟩) h⟩
theorem keep_al {w:World} {a:Addr} {v:Value} {o:Obj} (h:w.cell? a=some v):(w.alloc o).cell? a=some v:=(World.cell?_alloc_some w a o (by rw [h];rfl)).trans h
theorem keep_set {w:World} {p a:Addr} {v x:Value} (hb:p.block≠a.block) (h:w.cell? a=some v):(w.setCell p x).cell? a=some v:=(World.cell?_setCell_far w p a x hb).trans h
theorem keep_off {w:World} {b o b' o':Nat} {v x:Value} (hb:o'≠o) (h:w.cell? ⟨b',o',none⟩=some v):(w.setCell ⟨b,o,none⟩ x).cell? ⟨b',o',none⟩=some v:=
 (cell?_setCell_ne' w ⟨b,o,none⟩ ⟨b',o',none⟩ x (by intro e;injection e with _ e2;exact hb e2) rfl rfl).trans h
theorem keep_below {w w':World} {B:Nat} {a:Addr} {v:Value} (hb:Below B w w') (ha:a.block<B) (h:w.cell? a=some v):w'.cell? a=some v:=(hb.cell ha).trans h
theorem set_self {w:World} {a:Addr} {u v:Value} (h:w.cell? a=some u):(w.setCell a v).cell? a=some v:=by
 simp [go_sem,h]
theorem own0 {w:World} {b:Nat} {x y:Value} {t:TypeId} (hb:b=w.heap.size):(w.alloc (.cells #[x,y] t)).cell? ⟨b,0,none⟩=some x:=by subst hb;simp [go_sem]
theorem own1 {w:World} {b:Nat} {x y:Value} {t:TypeId} (hb:b=w.heap.size):(w.alloc (.cells #[x,y] t)).cell? ⟨b,1,none⟩=some y:=by subst hb;simp [go_sem]
theorem set0 {w:World} {b:Nat} {v:Value} (h:w.cell? ⟨b,0,none⟩=some (.bool false)):(w.setCell ⟨b,0,none⟩ v).cell? ⟨b,0,none⟩=some v:=set_self h
theorem set1 {w:World} {b:Nat} {v:Value} (h:w.cell? ⟨b,1,none⟩=some (.slice none 0 0)):(w.setCell ⟨b,1,none⟩ v).cell? ⟨b,1,none⟩=some v:=set_self h
theorem keep_drew {w:World} {a:Addr} {v:Value} (h:w.cell? a=some v):w.drew.cell? a=some v:=h
theorem sB {w1 W:World} {p q:Addr} {u v:Value} (x0:w1.cell? p=some u) (x1:w1.cell? q=some v) (k0:p.block<w1.heap.size) (k1:q.block<w1.heap.size) (hb:Below w1.heap.size w1 W) :
  W.cell? p=some u∧W.cell? q=some v∧Below w1.heap.size w1 W:=⟨(hb.cell k0).trans x0,(hb.cell k1).trans x1,hb⟩
theorem boxes4 (w:World) (a b c d:Obj):Below w.heap.size w ((((w.alloc a).alloc b).alloc c).alloc d):=
 (boxes3 w a b c).alloc (by first | omega | (simp;done) | (simp;omega)) _
theorem stores4 {w:World} {v:Value} {x b c:Nat} (h:Mag w v x) (u0 u1 u2 u3:Value) (hbc:b≠c) (f0:w.cell? ⟨b,0,none⟩=some (.bool false)) (f1:w.cell? ⟨b,1,none⟩=some (.slice none 0 0))
  (f4:w.cell? ⟨c,0,none⟩=some (.bool false)) (f5:w.cell? ⟨c,1,none⟩=some (.slice none 0 0)) :
  Mag ((((w.setCell ⟨b,0,none⟩ u0).setCell ⟨b,1,none⟩ u1).setCell ⟨c,0,none⟩ u2).setCell ⟨c,1,none⟩ u3) v x:=
 (h.store2 u0 u1 f0 f1 (noInt_bool _) (noInt_slice _ _ _)).store2 u2 u3 (keep_set hbc (keep_set hbc f4)) (keep_set hbc (keep_set hbc f5)) (noInt_bool _) (noInt_slice _ _ _)
set_option maxHeartbeats 8000000 in
theorem quo_exact (x y:Value) (p:Int) (g:Nat) (k:Nat) (w:World) (ha:IntIs w x p k) (hb:IntIs w y (g:Int) k) (hg:0<g) (hd:g ∣ p.natAbs) (hk:k≤549755813888) :
  Calls Tryz.prog 128 #[x,y] w fun e w'=>∃ r r2,e = .returned (.tuple #[r,r2])∧IntIs w' r (p / (g:Int)) k∧IntIs w' r2 0 k∧Below w.heap.size w w':=by
 obtain⟨u,rfl,hu,bu⟩:=ha
 obtain⟨v,rfl,hv,bv⟩:=hb
 rw [Int.natAbs_natCast] at hv bv
 have HU:=Lib.hid hu
 have HV:=Lib.hid hv
 obtain⟨a1,b1,o1,c1,rfl,i1⟩:=hu
 obtain⟨a2,b2,o2,c2,rfl,i2⟩:=hv
 have e2:decide ((g:Int)<0)=false:=by simp
 rw [e2]
 clear e2
 obtain⟨s1,hs1⟩:∃ s,s=decide (p<0):=⟨_,rfl⟩
 rw [←hs1]
 obtain⟨N,hN⟩:∃ N,N=p.natAbs:=⟨_,rfl⟩
 rw [←hN] at HU i1 hd bu ⊢
 have hmod:N % g=0:=Nat.mod_eq_zero_of_dvd hd
 have hq:sgn s1 (N / g)=p / (g:Int):=by
  obtain⟨q,hq⟩:=hd
  have hgz:(g:Int)≠0:=by omega
  rw [hq,Nat.mul_div_cancel_left _ hg,hs1]
  unfold sgn
  have hpa:(p.natAbs:Int)=(g:Int)*(q:Int):=by rw [←hN,hq,Int.natCast_mul]
  by_cases hp:p<0
  ·have:p=(g:Int)*(-(q:Int)):=by rw [Int.mul_neg];omega
   simp only [hp,decide_true,if_true]
   rw [this,Int.mul_ediv_cancel_left _ hgz]
  ·have:p=(g:Int)*(q:Int):=by omega
   simp only [hp,decide_false,Bool.false_eq_true,if_false]
   rw [this,Int.mul_ediv_cancel_left _ hgz]
 have HQ:=Lib.hid hq
 have HM:=Lib.hid hmod
 clear hq hmod hs1 hN hd i1 i2
 have HB:Hid (Below w.heap.size w ((((w.alloc (Obj.cells #[Value.bool s1,Value.slice a1 (nl N) c1] 90)).alloc (Obj.cells #[Value.bool false,Value.slice a2 (nl g) c2] 90)).alloc (Obj.cells #[.bool false,.slice none 0 0] 90)).alloc (Obj.cells #[.bool false,.slice none 0 0] 90))):=boxes4 w _ _ _ _
 go_enter Tryz.func128,Tryz.ntmps128
 go_upto_region 2 with (go_at_call 134;refine (part_any _ _ N g _ (HU.out.mono HB.out (Nat.le_refl _)) (HV.out.mono HB.out (Nat.le_refl _)) hg (by omega) (by omega)).mono ?_;rintro e w1 ⟨qv,rv,rfl,hqv,hrv,hb1⟩;obtain⟨q1,q2,q3,q4,q5,q6,hz1,HB1⟩:=kept3 (w:=w) hb1 (by simp) HB.out;obtain⟨q7,q8⟩:=kept1 hb1 (w.heap.size+1+1+1) (by simp);have hz4:w.heap.size+4≤w1.heap.size:=(by have:=hb1.size;simpa using this);have k0:w.heap.size<w1.heap.size:=(by omega);have k1:w.heap.size+1<w1.heap.size:=(by omega);have k2:w.heap.size+1+1<w1.heap.size:=(by omega);have k3:w.heap.size+1+1+1<w1.heap.size:=(by omega))
 obtain⟨Q,hQ⟩:∃ Q,Q=N / g:=⟨_,rfl⟩
 rw [←hQ] at hqv HQ
 have hQN:nl Q≤k:=Nat.le_trans (nl_mono (by rw [hQ];exact Nat.div_le_self _ _)) bu
 clear hQ
 have HQV:=Lib.hid hqv
 have HRV:=Lib.hid hrv
 rw [HM.out] at HRV
 obtain⟨a3,b3,o3,c3,rfl,i3⟩:=hqv
 rw [HM.out] at hrv
 obtain⟨a4,b4,o4,c4,rfl,i4⟩:=hrv
 clear i3 i4
 have e0:nl 0=0:=nl_zero
 rw [e0] at HRV ⊢
 have x0:w1.cell? ⟨w.heap.size,0,none⟩=some (.bool s1):=by rw [q1];simp [go_sem]
 have x1:w1.cell? ⟨w.heap.size+1,0,none⟩=some (.bool false):=by rw [q2];simp [go_sem]
 have hB0:Below w1.heap.size w1 w1.drew:=(Below.refl _ _).drew
 go_cut [8,9] (fun v8 v9 wx=>∃ b8 b9:Nat,v8 = .pointer (some ⟨b8,0,none⟩)∧v9 = .pointer (some ⟨b9,0,none⟩)∧wx.cell? ⟨b8,0,none⟩=some (.bool (s1 && decide (0<Q)))∧wx.cell? ⟨b8,1,none⟩=some (.slice a3 (nl Q) c3)∧
   wx.cell? ⟨b9,0,none⟩=some (.bool false)∧wx.cell? ⟨b9,1,none⟩=some (.slice a4 0 c4)∧
   w1.heap.size≤b8∧w1.heap.size≤b9∧Below w1.heap.size w1 wx)
 case first=>
  clear HU HV
  go_region_held3 (fun w'=>w'.cell? ⟨w.heap.size,0,none⟩=some (.bool s1)∧w'.cell? ⟨w.heap.size+1,0,none⟩=some (.bool false)∧Below w1.heap.size w1 w') ((go_split_ands;refine sB x0 x1 k0 k1 ?_;repeat (first | assumption | exact Below.refl _ _ | refine Below.drew ?_ | refine Below.alloc ?_ (by first | omega | (exact Below.size (B:=w1.heap.size) (by assumption)) | (simp;done) | (simp;omega)) _ | refine Below.setCell ?_ (by (dsimp only;(first | omega | (simp;omega)))) _ | refine Below.trans ?_ (Below.mono (by assumption) (Below.size (B:=w1.heap.size) (by assumption))))))
   (first
    | (go_at_call 106;(with_reducible refine (made_any (.slice a3 (nl Q) c3) s1 Q _ (Mag.mono HQV.out (by go_split_ands;assumption) (Nat.le_refl _))).mono ?_);rintro e w2 ⟨rfl,hm2,hb2⟩;clear hm2;have hw2:Below w1.heap.size w1 w2:=(by go_split_ands;exact Below.trans (by assumption) (Below.mono hb2 (Below.size (B:=w1.heap.size) (w:=w1) (by assumption))));have hz2:=hw2.size;have hy2:=hb2.size;(try simp only [World.size_alloc,World.size_drew,World.size_setCell] at hy2);(try have v1:w1.heap.size<w2.heap.size:=(by omega));(try have v2:w1.heap.size+1<w2.heap.size:=(by omega));(try have r1:=(kept1 hb2 (w1.heap.size) (by first | omega | (simp;done) | (simp;omega))).1);(try have r2:=(kept1 hb2 (w1.heap.size) (by first | omega | (simp;done) | (simp;omega))).2);(try have r3:=(kept1 hb2 (w1.heap.size+1) (by first | omega | (simp;done) | (simp;omega))).1);(try have r4:=(kept1 hb2 (w1.heap.size+1) (by first | omega | (simp;done) | (simp;omega))).2))
    | (go_at_call 106;(with_reducible refine (made_any (.slice a4 0 c4) s1 0 _ (Mag.mono HRV.out (by go_split_ands;assumption) (Nat.le_refl _))).mono ?_);rintro e w3 ⟨rfl,hm3,hb3⟩;clear hm3;have hw3:Below w1.heap.size w1 w3:=(by go_split_ands;exact Below.trans (by assumption) (Below.mono hb3 (Below.size (B:=w1.heap.size) (w:=w1) (by assumption))));have hz3:=hw3.size;have hy3:=hb3.size;(try simp only [World.size_alloc,World.size_drew,World.size_setCell] at hy3);(try have u1:w2.heap.size<w3.heap.size:=(by omega));(try have u2:w2.heap.size+1<w3.heap.size:=(by omega));(try have u3:w1.heap.size<w3.heap.size:=(by omega));(try have u4:w1.heap.size+1<w3.heap.size:=(by omega));(try have t1:=(kept1 hb3 (w2.heap.size) (by first | omega | (simp;done) | (simp;omega))).1);(try have t2:=(kept1 hb3 (w2.heap.size) (by first | omega | (simp;done) | (simp;omega))).2);(try have t3:=(kept1 hb3 (w2.heap.size+1) (by first | omega | (simp;done) | (simp;omega))).1);(try have t4:=(kept1 hb3 (w2.heap.size+1) (by first | omega | (simp;done) | (simp;omega))).2);(try have t5:=(kept1 hb3 (w1.heap.size) (by first | omega | (simp;done) | (simp;omega))).1);(try have t6:=(kept1 hb3 (w1.heap.size) (by first | omega | (simp;done) | (simp;omega))).2);(try have t7:=(kept1 hb3 (w1.heap.size+1) (by first | omega | (simp;done) | (simp;omega))).1);(try have t8:=(kept1 hb3 (w1.heap.size+1) (by first | omega | (simp;done) | (simp;omega))).2)))
  all_goals
   go_wp2_with fail
   go_meet
   case rel=>
    go_split_ands
    refine⟨_,_,rfl,rfl,?_,?_,?_,?_,by first | omega | (simp;done) | (simp;omega),by first | omega | (simp;done) | (simp;omega),by assumption⟩ <;> (repeat (first | (with_reducible refine own0 ?_;(first | with_reducible rfl | (simp only [World.size_alloc,World.size_drew,World.size_setCell];done))) | (with_reducible refine own1 ?_;(first | with_reducible rfl | (simp only [World.size_alloc,World.size_drew,World.size_setCell];done))) | with_reducible refine keep_drew ?_ | with_reducible refine keep_al ?_ | (with_reducible refine keep_off ?_ ?_;(· decide)) | (with_reducible refine keep_set ?_ ?_;(· (dsimp only;omega))) | with_reducible refine set0 ?_ | with_reducible refine set1 ?_ | (with_reducible refine keep_below hb3 ?_ ?_;(· (first | (dsimp only;omega) | (simp only [World.size_alloc,World.size_drew,World.size_setCell];omega)))) | (with_reducible refine keep_below hb2 ?_ ?_;(· (first | (dsimp only;omega) | (simp only [World.size_alloc,World.size_drew,World.size_setCell];omega))))))
 case rest=>
  obtain⟨b8,b9,rfl,rfl,g1,g2,g3,g4,hb8,hb9,HBX⟩:=hcut
  have f0:wc.cell? ⟨w.heap.size+1+1,0,none⟩=some (.bool false):=by rw [HBX.cell (by dsimp only;omega),q3];simp [go_sem]
  have f1:wc.cell? ⟨w.heap.size+1+1,1,none⟩=some (.slice none 0 0):=by rw [HBX.cell (by dsimp only;omega),q3];simp [go_sem]
  have f2:wc.frozen? ⟨w.heap.size+1+1,0,none⟩=false:=by rw [HBX.frozen (by dsimp only;omega),q6];simp [go_sem]
  have f3:wc.frozen? ⟨w.heap.size+1+1,1,none⟩=false:=by rw [HBX.frozen (by dsimp only;omega),q6];simp [go_sem]
  have f4:wc.cell? ⟨w.heap.size+1+1+1,0,none⟩=some (.bool false):=by rw [HBX.cell (by dsimp only;omega),q7];simp [go_sem]
  have f5:wc.cell? ⟨w.heap.size+1+1+1,1,none⟩=some (.slice none 0 0):=by rw [HBX.cell (by dsimp only;omega),q7];simp [go_sem]
  have f6:wc.frozen? ⟨w.heap.size+1+1+1,0,none⟩=false:=by rw [HBX.frozen (by dsimp only;omega),q8];simp [go_sem]
  have f7:wc.frozen? ⟨w.heap.size+1+1+1,1,none⟩=false:=by rw [HBX.frozen (by dsimp only;omega),q8];simp [go_sem]
  have M3:=Lib.hid (Mag.mono HQV.out HBX (Nat.le_refl _))
  have M4:=Lib.hid (Mag.mono HRV.out HBX (Nat.le_refl _))
  have HX:=Lib.hid (HB1.out.trans (HBX.mono (by omega)))
  clear q1 q2 q3 q4 q5 q6 q7 q8 HBX hb1
  go_wp2
  go_region_held3 (fun w'=>w'.cell? ⟨b8,0,none⟩=some (.bool (s1 && decide (0<Q)))∧w'.cell? ⟨b8,1,none⟩=some (.slice a3 (nl Q) c3)∧w'.cell? ⟨b9,0,none⟩=some (.bool false)∧w'.cell? ⟨b9,1,none⟩=some (.slice a4 0 c4))
   ((go_split_ands;refine⟨?_,?_,?_,?_⟩ <;> (repeat (first | with_reducible assumption | with_reducible refine keep_drew ?_ | (with_reducible refine keep_set ?_ ?_;(· (dsimp only;omega))))))) (fail)
  all_goals go_wp2
  all_goals
   refine bodyPost_ret (v:=.tuple #[.agg #[.bool (s1 && decide (0<Q)),.slice a3 (nl Q) c3],.agg #[.bool false,.slice a4 0 c4]]) (by simp [results,Tryz.results128,go_sem,f0,f1,f2,f3,f4,f5,f6,f7]) rfl ?_
   refine⟨_,_,rfl,?_,?_,?_⟩
  all_goals
   first
    | (refine IntIs.mk (s:=s1) (x:=Q) HQ.out.symm ?_ hQN)
    | (refine IntIs.mk (s:=false) (x:=0) (by simp [sgn]) ?_ (by rw [nl_zero];exact Nat.zero_le _))
    | (refine ((((HX.out.setCell ?_ _).setCell ?_ _).setCell ?_ _).setCell ?_ _).drew <;> (dsimp only;omega))
  all_goals
   first
    | (with_reducible refine Mag.drew ?_;with_reducible refine stores4 M3.out _ _ _ _ ?_ f0 f1 f4 f5;omega)
    | (with_reducible refine Mag.drew ?_;with_reducible refine stores4 M3.out _ _ _ _ ?_ f4 f5 f0 f1;omega)
    | (with_reducible refine Mag.drew ?_;with_reducible refine stores4 M4.out _ _ _ _ ?_ f0 f1 f4 f5;omega)
    | (with_reducible refine Mag.drew ?_;with_reducible refine stores4 M4.out _ _ _ _ ?_ f4 f5 f0 f1;omega)
end Go.Proofs.YtgmopcncbpdniaaGreat
namespace Go.Proofs.YtgmopcncbpdniaaGreat
open Go.RowKit
attribute [local go_sem ↓] Go.wp_at_zero Go.wp_at_succ
theorem RatIs.shape {w:World} {v:Value} {q:Rat} {m:Nat} (h:RatIs w v q m):∃ s a n c a2 n2 c2,v = .agg #[.bool s,.slice a n c,.bool false,.slice a2 n2 c2]∧Hid (RatIs w (.agg #[.bool s,.slice a n c,.bool false,.slice a2 n2 c2]) q m):=by
 have h0:=h
 obtain⟨u,d,rfl,⟨a,b,o,c,rfl,hs⟩,⟨a2,b2,o2,c2,rfl,hs2⟩,h2⟩:=h
 exact⟨_,a,_,c,a2,_,c2,rfl,h0⟩
theorem RatIs.num {w:World} {s t:Bool} {u d:Value} {q:Rat} {m:Nat} (h:RatIs w (.agg #[.bool s,u,.bool t,d]) q m):IntIs w (.agg #[.bool s,u]) q.num m:=by
 obtain⟨u',d',e,hu,hd,b1,b2⟩:=h
 injection e with e
 injection e with e
 injection e with e1 e
 injection e with e2 e
 injection e with e3 e
 injection e with e4 e
 subst e2;subst e4
 exact⟨u,by rw [e1],hu,b1⟩
theorem RatIs.den {w:World} {s t:Bool} {u d:Value} {q:Rat} {m:Nat} (h:RatIs w (.agg #[.bool s,u,.bool t,d]) q m):IntIs w (.agg #[.bool t,d]) (q.den:Int) m:=by
 obtain⟨u',d',e,hu,hd,b1,b2⟩:=h
 injection e with e
 injection e with e
 injection e with e1 e
 injection e with e2 e
 injection e with e3 e
 injection e with e4 e
 subst e2;subst e4
 exact⟨d,by rw [e3];simp,by rw [Int.natAbs_natCast];exact hd,by rw [Int.natAbs_natCast];exact b2⟩
theorem RatIs.mk {w:World} {s t:Bool} {u d:Value} {q:Rat} {m:Nat} (h1:IntIs w (.agg #[.bool s,u]) q.num m) (h2:IntIs w (.agg #[.bool t,d]) (q.den:Int) m):RatIs w (.agg #[.bool s,u,.bool t,d]) q m:=by
 obtain⟨u',e,hu,b1⟩:=h1
 obtain⟨d',e',hd,b2⟩:=h2
 injection e with e
 injection e with e
 injection e with e1 e
 injection e with e2 e
 injection e' with e'
 injection e' with e'
 injection e' with e3 e'
 injection e' with e4 e'
 subst e2;subst e4
 rw [Int.natAbs_natCast] at hd b2
 exact⟨u,d,by rw [e1,e3];simp,hu,hd,b1,b2⟩
theorem RatIs.le {w:World} {v:Value} {q:Rat} {m n:Nat} (h:RatIs w v q m) (hmn:m≤n):RatIs w v q n:=by
 obtain⟨u,d,rfl,h1,h2,h3,h4⟩:=h
 exact⟨u,d,rfl,h1,h2,Nat.le_trans h3 hmn,Nat.le_trans h4 hmn⟩
theorem RatIs.store4 {w:World} {v:Value} {q:Rat} {m b:Nat} (h:RatIs w v q m) (u0 u1 u2 u3:Value) {v0 v1 v2 v3:Value} (h0:w.cell? ⟨b,0,none⟩=some v0) (h1:w.cell? ⟨b,1,none⟩=some v1)
  (h2:w.cell? ⟨b,2,none⟩=some v2) (h3:w.cell? ⟨b,3,none⟩=some v3) (n0:NoInt v0) (n1:NoInt v1) (n2:NoInt v2) (n3:NoInt v3) :
  RatIs ((((w.setCell ⟨b,0,none⟩ u0).setCell ⟨b,1,none⟩ u1).setCell ⟨b,2,none⟩ u2).setCell ⟨b,3,none⟩ u3) v q m:=by
 obtain⟨u,d,rfl,m1,m2,m3⟩:=h
 exact⟨u,d,rfl,m1.store4 u0 u1 u2 u3 h0 h1 h2 h3 n0 n1 n2 n3,m2.store4 u0 u1 u2 u3 h0 h1 h2 h3 n0 n1 n2 n3,m3⟩
theorem RatIs.drawn {w w':World} {v:Value} {q:Rat} {m:Nat} (h:RatIs w v q m) (hd:Drawn w w'):RatIs w' v q m:=h.mono (hd.below _) (Nat.le_refl _)
theorem IntIs.drew {w:World} {v:Value} {z:Int} {m:Nat} (h:IntIs w v z m):IntIs w.drew v z m:=h.drawn (Drawn.of _ 1)
theorem RatIs.drew {w:World} {v:Value} {q:Rat} {m:Nat} (h:RatIs w v q m):RatIs w.drew v q m:=h.drawn (Drawn.of _ 1)
set_option maxHeartbeats 1000000 in
theorem rat_whole (n:Int) (h1 : -4611686018427387904<n) (h2:n<4611686018427387904) (w:World) :
  Calls Tryz.prog 59 #[.int .i64 n] w fun e w'=>∃ r,e = .returned r∧RatIs w' r (n:Rat) 2∧Below w.heap.size w w':=by
 have HB:Hid (Below w.heap.size w (w.alloc (Obj.cells #[.bool false,.slice none 0 0,.bool false,.slice none 0 0] 92))):=boxes1 w _
 go_enter Tryz.func59,Tryz.ntmps59
 go_wp2_with (first
  | (go_at_call 94;(with_reducible refine (int_of n h1 h2 _).mono ?_);rintro e w1 ⟨r1,rfl,hr1,hb1⟩;obtain⟨s1,a1,n1,c1,rfl,H1⟩:=hr1.shape;clear hr1;obtain⟨q1,q2⟩:=kept1 hb1 w.heap.size (by simp))
  | (go_at_call 94;(with_reducible refine (int_of 1 (by omega) (by omega) _).mono ?_);rintro e w2 ⟨r2,rfl,hr2,hb2⟩;obtain⟨s2,a2,n2,c2,rfl,H2⟩:=hr2.shape;clear hr2;have hz1:=hb1.size;(try simp only [World.size_alloc] at hz1);obtain⟨p1,p2⟩:=kept1 hb2 w.heap.size (by omega)))
 have x0:w2.cell? ⟨w.heap.size,0,none⟩=some (.bool false):=by rw [p1,q1];simp [go_sem]
 have x1:w2.cell? ⟨w.heap.size,1,none⟩=some (.slice none 0 0):=by rw [p1,q1];simp [go_sem]
 have x2:w2.cell? ⟨w.heap.size,2,none⟩=some (.bool false):=by rw [p1,q1];simp [go_sem]
 have x3:w2.cell? ⟨w.heap.size,3,none⟩=some (.slice none 0 0):=by rw [p1,q1];simp [go_sem]
 refine bodyPost_ret (v:=.agg #[.bool s1,.slice a1 n1 c1,.bool s2,.slice a2 n2 c2]) (by simp [results,Tryz.results59,go_sem,x0,x1,x2,x3,p2,q2]) rfl ?_
 refine⟨_,rfl,?_,?_⟩
 ·refine RatIs.store4 (RatIs.mk ?_ ?_) _ _ _ _ x0 x1 x2 x3 (noInt_bool _) (noInt_slice _ _ _) (noInt_bool _) (noInt_slice _ _ _)
  ·rw [Rat.num_intCast];exact H1.out.mono hb2 (Nat.le_refl _)
  ·rw [Rat.den_intCast];exact H2.out
 ·have h0:=(HB.out.trans (hb1.mono (by simp))).trans (hb2.mono (by omega))
  exact (((h0.setCell (Nat.le_refl _) _).setCell (Nat.le_refl _) _).setCell (Nat.le_refl _) _).setCell (Nat.le_refl _) _
end Go.Proofs.YtgmopcncbpdniaaGreat
