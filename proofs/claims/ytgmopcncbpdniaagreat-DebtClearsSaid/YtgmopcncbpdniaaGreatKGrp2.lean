import Derived.Test.YtgmopcncbpdniaaGreatKShelf
import Derived.Test.YtgmopcncbpdniaaGreatKInt5
import Derived.Test.YtgmopcncbpdniaaGreatKQMat
import Derived.Test.YtgmopcncbpdniaaGreatKPlainW
import Derived.Test.YtgmopcncbpdniaaGreatKPlainD
import Derived.Test.YtgmopcncbpdniaaGreatKCopy
import Derived.Test.YtgmopcncbpdniaaGreatKRefN
set_option maxHeartbeats 4000000
set_option maxRecDepth 100000
set_option linter.unusedVariables false
set_option linter.unusedSimpArgs false
namespace Go.Proofs.YtgmopcncbpdniaaGreat
open Go.RowKit
attribute [local go_sem ↓] Go.wp_at_zero Go.wp_at_succ
theorem zqs_s:Tryz.prog.underlying 32=some (.slice (Tryz.prog.elem 32)):=by kernel_rfl
theorem zqs_z (W:World):(sizeOf (Tryz.prog.elem 32)).run Tryz.prog W = .ok 4 W:=by kernel_rfl
theorem ixV (b n c i:Nat) (hi:i<n) (W:World) :
  (Instr.indexAt 32 (.slice (some ⟨b,0,none⟩) n c) (.int .i64 (i:Int))).run Tryz.prog W = .ok (.pointer (some ⟨b,i*4,none⟩)) W:=by
 rw [run_indexAt_slice W _ _ _ _ _ _ zqs_s,if_pos ⟨by omega,by omega⟩,zqs_z];simp only [Result.andThen,Int.toNat_natCast];congr 3;unfold Addr.add;split
 ·rename_i h;simp [show i=0 by omega]
 ·simp
theorem IsSl.ints {w:World} {a:Option Addr} {b o c n:Nat} {f:Nat->Int} (h:IsSl w a b o c n (ic f)):Ints w (.slice a n c) n f:=⟨a,b,o,c,rfl,h⟩
theorem sumF_mem {f:Nat->Int} (h:∀ i,0<=f i):∀ n i,i<n->f i<=sumF f n
 | 0,i,hi=>by omega
 | n+1,i,hi=>by
  simp only [sumF];by_cases e:i=n
  ·subst e;have:=sumF_nn h i;omega
  ·have:=sumF_mem h n i (by omega);have:=h n;omega
theorem shQ_div {n:Nat} {d:Nat->Nat->Int} {j i:Nat} (h:sumF (d j) n≠0):shQ n d j i=(d j i:Rat) / (sumF (d j) n:Rat):=by unfold shQ shareQ;rw [if_neg h]
theorem shQ_none {n:Nat} {d:Nat->Nat->Int} {j i:Nat} (h:d j i=0):shQ n d j i=0:=by
 unfold shQ shareQ;split
 ·rfl
 ·rw [h,Rat.div_def];simp
theorem ZIs.at4 {w:World} {v:Value} {z:Int} {m b:Nat} {s t:Bool} {a a2:Option Addr} {n c n2 c2:Nat} (h:ZIs w v z m) (O:Own4 w b (.bool s) (.slice a n c) (.bool t) (.slice a2 n2 c2)) (u0 u1 u2 u3:Value) :
  ZIs ((((w.setCell ⟨b,0,none⟩ u0).setCell ⟨b,1,none⟩ u1).setCell ⟨b,2,none⟩ u2).setCell ⟨b,3,none⟩ u3) v z m:=
 (((h.setCell u0 O.c0 (noInt_bool _)).setCell u1 (off_set (by decide) O.c1) (noInt_slice _ _ _)).setCell u2 (off_set (by decide) (off_set (by decide) O.c2)) (noInt_bool _)).setCell u3 (off_set (by decide) (off_set (by decide) (off_set (by decide) O.c3))) (noInt_slice _ _ _)
theorem QIs.at4 {w:World} {v:Value} {p d:Int} {m b:Nat} {s t:Bool} {a a2:Option Addr} {n c n2 c2:Nat} (h:QIs w v p d m) (O:Own4 w b (.bool s) (.slice a n c) (.bool t) (.slice a2 n2 c2)) (u0 u1 u2 u3:Value) :
  QIs ((((w.setCell ⟨b,0,none⟩ u0).setCell ⟨b,1,none⟩ u1).setCell ⟨b,2,none⟩ u2).setCell ⟨b,3,none⟩ u3) v p d m:=by
 obtain⟨s1,v1,s2,v2,h0,h1,h2,h3⟩:=h;exact⟨s1,v1,s2,v2,h0,h1.at4 O _ _ _ _,h2.at4 O _ _ _ _,h3⟩
theorem QV.at4 {w:World} {v:Value} {q:Rat} {m b:Nat} {s t:Bool} {a a2:Option Addr} {n c n2 c2:Nat} (h:QV w v q m) (O:Own4 w b (.bool s) (.slice a n c) (.bool t) (.slice a2 n2 c2)) (u0 u1 u2 u3:Value) :
  QV ((((w.setCell ⟨b,0,none⟩ u0).setCell ⟨b,1,none⟩ u1).setCell ⟨b,2,none⟩ u2).setCell ⟨b,3,none⟩ u3) v q m:=by
 obtain⟨p,d,h1,h2⟩:=h;exact⟨p,d,h1.at4 O _ _ _ _,h2⟩
theorem recv_any (vd vp:Value) (n i:Nat) (d:Nat->Nat->Int) (q:Nat->Rat) (K:Nat) (w:World) (hm:Mat w vd n (fun _=>n) d) (hp:VSl w vp n q K) (hi:i<n) (hn:n<=8) (hd:∀ i j,0<=d i j) (hR:∀ i j,i<n->j<n->d i j<=1000) (hT:∀ i,i<n->sumF (d i) n<=100000) (hK5:5<=K) (hK:K<=100000000) :
  Calls Tryz.prog 19 #[vd,vp,.int .i64 (i:Nat)] w fun ex w'=>∃ r,ex = .returned r/\QIs w' r (sumQ (fun j=>q j*shQ n d j i) n).num (((sumQ (fun j=>q j*shQ n d j i) n).den:Nat):Int) (512*(K+1))/\Below w.heap.size w w':=by
 obtain⟨da,b,o,dc,ra,rb,ro,rc,rfl,hdm⟩:=hm;obtain⟨g,gc,rfl,hgc,hgl,hgv⟩:=hp.val;have HM:=jj hdm;have HV:=jj hgv;have HD0:=jj hd;have HR0:=jj hR;have HT0:=jj hT;have HGL:=jj hgl;clear hdm hgv hd hR hT hp hgl;have KW0:=jj (boxes1 w (.cells #[.bool false,.slice none 0 0,.bool false,.slice none 0 0] 40));have RO0:=jj (own4_new w w.heap.size rfl (.bool false) (.slice none 0 0) (.bool false) (.slice none 0 0) 40);go_enter Tryz.func19,Tryz.ntmps19;go_wp2_with fail;refine (qv_whole 0 _ (by omega) (by omega)).mono ?_;rintro e w1 ⟨r1,rfl,hr1,hb1⟩;obtain⟨s1,a1,n1,c1,t1,a2,n2,c2,rfl,Q1⟩:=hr1.shape;have hbx:=boxes1 w1 (.cells #[.bool s1,.slice a1 n1 c1,.bool t1,.slice a2 n2 c2] 40);have RO0:=jj ((RO0.out.below hb1 RO0.out.lt).alloc (.cells #[.bool s1,.slice a1 n1 c1,.bool t1,.slice a2 n2 c2] 40));have KW0:=jj ((jb KW0.out hb1).alloc (jb KW0.out hb1).size (.cells #[.bool s1,.slice a1 n1 c1,.bool t1,.slice a2 n2 c2] 40));have PS0:=jj (own4_new w1 w1.heap.size rfl (.bool s1) (.slice a1 n1 c1) (.bool t1) (.slice a2 n2 c2) 40);have QS0:=jj (Q1.out.mono hbx jl);have HSB:Hid (w.heap.size<w1.heap.size):=jj (by have:=hb1.size;simp at this;omega);obtain⟨SB,hSB⟩:∃ SB,SB=w1.heap.size:=⟨_,rfl⟩;clear hr1 hb1 hbx Q1;go_wp2;rw [<-hSB] at PS0 HSB ⊢;clear hSB;generalize w1.alloc (.cells #[.bool s1,.slice a1 n1 c1,.bool t1,.slice a2 n2 c2] 40)=w2 at *
 go_loopw [8] (fun v8 wr=>∃ k:Nat,k<=n/\v8 = .int .i64 (k:Nat)/\∃ s a m c t a2 m2 c2 B,Hid (Own4 wr SB (.bool s) (.slice a m c) (.bool t) (.slice a2 m2 c2))/\Hid (QV wr (.agg #[.bool s,.slice a m c,.bool t,.slice a2 m2 c2]) (sumQ (fun j=>q j*shQ n d j i) k) B)/\Hid (B+1=2 ^ k*(2*K+1))/\
  Hid (Own4 wr w.heap.size (.bool false) (.slice none 0 0) (.bool false) (.slice none 0 0))/\Hid (Below w.heap.size w wr)) (fun v8 _=>n - (intOf v8).toNat)
 case atStart=>exact⟨0,by omega,rfl,s1,a1,n1,c1,t1,a2,n2,c2,2*K,PS0,jj (QS0.out.le (by omega)),jj (by omega),RO0,KW0⟩
 case round=>
  clear PS0 QS0 RO0 KW0;obtain⟨k,hk,rfl,s,a,m,c,t,a2,m2,c2,B,PS,QS,HB,RO,KW0⟩:=hrel;by_cases h:k<n
  ·have e1:decide ((k:Int)<(n:Int))=true:=by simpa using h
   have e1n:decide (k<n)=true:=by simpa using h
   have ixm:=fun W=>ixM HM.out.top k dc h W
   have ixr:=fun W=>ixI (HM.out.row k h) i (rc k) hi W
   have ixp:=fun W=>ixV g n gc k h W
   have hM1:=HM.out.mono KW0.out jl;have y0:=hM1.top.cell k h;have y1:=(hM1.row k h).cell i hi;simp only [ic] at y1;clear hM1;by_cases hz:0<d k i
   ·have d1:decide (0<d k i)=true:=by simpa using hz
    obtain⟨s5,a5,n5,c5,t5,a6,n6,c6,z0,z1,z2,z3,zq⟩:=HV.out k h;have HQ5:=jj (QV.mono zq KW0.out jl);have HMT:=sumF_mem (HD0.out k) n i hi;have HNZ:Hid (sumF (d k) n≠0):=jj (by omega);have HR1:Hid (-9223372036854775808<=d k i/\d k i<9223372036854775808):=jj (by have:=HR0.out k i h hi;omega);have HR2:Hid (-9223372036854775808<=sumF (d k) n/\sumF (d k) n<9223372036854775808):=jj (by have:=HT0.out k h;omega);have HDT:Hid (∀ l,l<n->-(1099511627776:Int)<=d k l/\d k l<=1099511627776):=jj (fun l hl=>by have:=HR0.out k l h hl;have:=HD0.out k l;omega)
    have HB2:Hid (2*K<=B/\B<=274877906940):=jj (by
     have h1:2 ^ k<=2 ^ 8:=Nat.pow_le_pow_right (by omega) (by omega);have h2:1<=2 ^ k:=Nat.one_le_two_pow;have h3:=Nat.mul_le_mul_right (2*K+1) h1;have h4:=Nat.mul_le_mul_right (2*K+1) h2;have:=HB.out;omega)
    have HSUM:Hid (sumQ (fun j=>q j*shQ n d j i) k+q k*((d k i:Rat) / (sumF (d k) n:Rat))=sumQ (fun j=>q j*shQ n d j i) (k+1)):=jj (by simp only [sumQ];rw [shQ_div HNZ.out]);have VL0:=jj (jr wr);have VL:=jj VL0.out.drew
    have keepR:Hid (∀ w',Below wr.heap.size wr w'->w'.cell? ⟨SB,0,none⟩=some (.bool s)/\w'.cell? ⟨SB,1,none⟩=some (.slice a m c)/\w'.cell? ⟨SB,2,none⟩=some (.bool t)/\w'.cell? ⟨SB,3,none⟩=some (.slice a2 m2 c2)/\w'.cell? ⟨g,k*4,none⟩=some (.bool s5)/\w'.cell? ⟨g,k*4+1,none⟩=some (.slice a5 n5 c5)/\w'.cell? ⟨g,k*4+2,none⟩=some (.bool t5)/\w'.cell? ⟨g,k*4+3,none⟩=some (.slice a6 n6 c6)/\w'.cell? ⟨b,o+k,none⟩=some (.slice (ra k) n (rc k))/\w'.cell? ⟨rb k,ro k+i,none⟩=some (.int .i64 (d k i))):=
     jj (fun w' hb=>⟨bel1 hb PS.out.c0 PS.out.lt,bel1 hb PS.out.c1 PS.out.lt,bel1 hb PS.out.c2 PS.out.lt,bel1 hb PS.out.c3 PS.out.lt,
      bel1 hb (bel1 KW0.out z0 HGL.out) (jm HGL.out KW0.out.size),bel1 hb (bel1 KW0.out z1 HGL.out) (jm HGL.out KW0.out.size),bel1 hb (bel1 KW0.out z2 HGL.out) (jm HGL.out KW0.out.size),bel1 hb (bel1 KW0.out z3 HGL.out) (jm HGL.out KW0.out.size),
      bel1 hb y0 (jm (HM.out.top.lt (by omega)) KW0.out.size),bel1 hb y1 (jm ((HM.out.row k h).lt (by omega)) KW0.out.size)⟩)
    clear zq z0 z1 z2 z3 HMT;go_wp2;clear y0 y1;refine wp_region_last (S:=fun w'=>w'.cell? ⟨SB,0,none⟩=some (.bool s)/\w'.cell? ⟨SB,1,none⟩=some (.slice a m c)/\w'.cell? ⟨SB,2,none⟩=some (.bool t)/\w'.cell? ⟨SB,3,none⟩=some (.slice a2 m2 c2)/\w'.cell? ⟨g,k*4,none⟩=some (.bool s5)/\w'.cell? ⟨g,k*4+1,none⟩=some (.slice a5 n5 c5)/\w'.cell? ⟨g,k*4+2,none⟩=some (.bool t5)/\w'.cell? ⟨g,k*4+3,none⟩=some (.slice a6 n6 c6)/\w'.cell? ⟨b,o+k,none⟩=some (.slice (ra k) n (rc k))/\w'.cell? ⟨rb k,ro k+i,none⟩=some (.int .i64 (d k i))) (by kernel_rfl) (by kernel_rfl) (keepR.out _ VL.out) (fun hHeld=>?_);simp only [List.pop_toArray,List.dropLast_cons_cons,List.dropLast_singleton];refine wtk_begin [0,1,2,3,4,5,6,7,8,9,10,11,12,13,14,15] ?_
    iterate 16 (refine wtk (v:=?_) rfl (by kernel_rfl) (fun _ _ _ h=>h) (by kernel_rfl) ?_ (by assumption) ?_;rotate_left;(focus intro w0 hSw;(try dsimp only at hSw);go_simp;all_goals (with_reducible rfl));simp only [Act.put,js,jz,jc])
    refine wtk_end ?_;refine wpAnyH_ready (rs:=[16]) (by kernel_rfl) (by simp) ?_;refine AllReadyH.cons rfl (fun Kn hKn=>?_) AllReadyH.nil;go_simp
    (go_at_call 17;(with_reducible refine (total_any _ n (d k) _ ((HM.out.row k h).ints.mono (jb KW0.out VL.out) jl) (by omega) HDT.out).mono ?_);rintro e w3 ⟨rfl,hd3⟩;have VL:=jj (VL.out.trans ((hd3.below _).mono VL.out.size)))
    go_wp2_with fail;refine hKn.out _ _ ?_ (fun hHeld=>?_)
    ·(try dsimp only);exact keepR.out _ VL.out
    clear hKn Kn
    (try simp only [Act.put,js,jz,jc])
    refine wpAnyH_ready (rs:=[17]) (by kernel_rfl) (by simp) ?_;refine AllReadyH.cons rfl (fun Kn hKn=>?_) AllReadyH.nil;go_simp
    (go_at_call 49;(with_reducible refine (make_any (d k i) (sumF (d k) n) _ HR1.out.1 HR1.out.2 HR2.out.1 HR2.out.2 HNZ.out).mono ?_);rintro e w4 ⟨r4,rfl,hr4,hb4⟩;obtain⟨s4,a4,n4,c4,t4,a7,n7,c7,rfl,QM⟩:=(QV.of hr4).shape;clear hr4;have VL:=jj (jb VL.out hb4))
    go_wp2_with fail;refine hKn.out _ _ ?_ (fun hHeld=>?_)
    ·(try dsimp only);exact keepR.out _ VL.out
    clear hKn Kn
    (try simp only [Act.put,js,jz,jc])
    refine wpAnyH_ready (rs:=[18]) (by kernel_rfl) (by simp) ?_;refine AllReadyH.cons rfl (fun Kn hKn=>?_) AllReadyH.nil;go_simp
    (go_at_call 48;(with_reducible refine (qv_mul _ _ (q k) ((d k i:Rat) / (sumF (d k) n:Rat)) K _ (HQ5.out.mono VL.out jl) (QM.out.le hK5) (by omega)).mono ?_);rintro e w5 ⟨r5,rfl,hr5,hb5⟩;obtain⟨s8,a8,n8,c8,t8,a9,n9,c9,rfl,QP⟩:=hr5.shape;clear hr5;have VL:=jj (jb VL.out hb5))
    go_wp2_with fail;refine hKn.out _ _ ?_ (fun hHeld=>?_)
    ·(try dsimp only);exact keepR.out _ VL.out
    clear hKn Kn
    (try simp only [Act.put,js,jz,jc])
    refine wpAnyH_ready (rs:=[19]) (by kernel_rfl) (by simp) ?_;refine AllReadyH.cons rfl (fun Kn hKn=>?_) AllReadyH.nil;go_simp
    (go_at_call 18;(with_reducible refine (qv_add _ _ (sumQ (fun j=>q j*shQ n d j i) k) (q k*((d k i:Rat) / (sumF (d k) n:Rat))) B _ (QS.out.mono VL.out jl) (QP.out.le HB2.out.1) HB2.out.2).mono ?_);rintro e w6 ⟨r6,rfl,hr6,hb6⟩;obtain⟨x1,y1,z1,u1,x2,y2,z2,u2,rfl,QA⟩:=hr6.shape;clear hr6;have VL:=jj (jb VL.out hb6);have P6:=jj (PS.out.below VL.out PS.out.lt);have p0:=P6.out.c0;have p1:=P6.out.c1;have p2:=P6.out.c2;have p3:=P6.out.c3;have pf:=P6.out.f;have pl:=P6.out.lt)
    go_wp2_with fail;refine hKn.out _ _ ?_ (fun hHeld=>?_)
    ·(try dsimp only);exact keepR.out _ VL.out
    clear hKn Kn
    (try simp only [Act.put,js,jz,jc])
    refine wpAnyH_done (by kernel_rfl) ?_ _;refine lastQ_step rfl (fun Kn hKn=>?_);go_simp;refine hKn.out _ _ ?_;clear hKn Kn
    (try simp only [Act.put,js,jz,jc])
    have QA2:=jj (QA.out.at4 P6.out (.bool x1) (.slice y1 z1 u1) (.bool x2) (.slice y2 z2 u2));rw [HSUM.out] at QA2;have PA2:=jj (P6.out.anew (.bool x1) (.slice y1 z1 u1) (.bool x2) (.slice y2 z2 u2));have RO2:=jj ((RO.out.below VL.out RO.out.lt).set4 SB (.bool x1) (.slice y1 z1 u1) (.bool x2) (.slice y2 z2 u2) (by have:=HSB.out;omega));have KW2:=jj (below_set4q (jb KW0.out VL.out) (b:=SB) (by have:=HSB.out;omega) (.bool x1) (.slice y1 z1 u1) (.bool x2) (.slice y2 z2 u2));clear p0 p1 p2 p3 pf pl;go_wp2;go_roundw
    case rel=>exact⟨k+1,by omega,by go_num,_,_,_,_,_,_,_,_,2*B+1,PA2,QA2,jj (by have:=HB.out;rw [Nat.pow_succ,Nat.mul_comm (2 ^ k) 2,Nat.mul_assoc];omega),RO2,KW2⟩
    case measure=>simp [intOf];omega
   ·have d1:decide (0<d k i)=false:=by simpa using hz
    have hz0:d k i=0:=by have:=HD0.out k i;omega
    have HSUM:Hid (sumQ (fun j=>q j*shQ n d j i) k=sumQ (fun j=>q j*shQ n d j i) (k+1)):=jj (by simp only [sumQ];rw [shQ_none hz0,Rat.mul_zero,Rat.add_zero]);have HB2:Hid (B<=2*B+1):=jj (by omega);have QA2:=jj (QS.out.le HB2.out);rw [HSUM.out] at QA2;clear hz0;go_wp2;go_roundw
    case rel=>exact⟨k+1,by omega,by go_num,_,_,_,_,_,_,_,_,2*B+1,PS,QA2,jj (by have:=HB.out;rw [Nat.pow_succ,Nat.mul_comm (2 ^ k) 2,Nat.mul_assoc];omega),RO,KW0⟩
    case measure=>simp [intOf];omega
  ·obtain rfl:n=k:=by omega
   have e1:decide ((n:Int)<(n:Int))=false:=by simp
   have HB2:Hid (B<=512*(K+1)/\B<=274877906940):=jj (by
    have h1:2 ^ n<=2 ^ 8:=Nat.pow_le_pow_right (by omega) (by omega);have h3:=Nat.mul_le_mul_right (2*K+1) h1;have:=HB.out;omega)
   obtain⟨x0,x1,x2,x3,xf,xl⟩:=PS.out;go_wp2_with fail;refine (qv_low _ _ B _ QS.out HB2.out.2).mono ?_;rintro e w3 ⟨r3,rfl,hr3,hb3⟩;obtain⟨s3,a3,n3,c3,t3,a4,n4,c4,rfl,-,-,-⟩:=hr3.shape;have HR3:=jj (hr3.le HB2.out.1);have RO:=jj (RO.out.below hb3 RO.out.lt);have KW0:=jj (jb KW0.out hb3);clear x0 x1 x2 x3 xf xl hb3 hr3;obtain⟨x0,x1,x2,x3,xf,xl⟩:=RO.out;go_wp2_with fail;refine bodyPost_ret (v:=.agg #[.bool s3,.slice a3 n3 c3,.bool t3,.slice a4 n4 c4]) (by simp [results,Tryz.results19,go_sem,x0,x1,x2,x3,xf,xl]) rfl ?_;exact⟨_,rfl,HR3.out.at4 RO.out _ _ _ _,below_set4q KW0.out (by omega) _ _ _ _⟩
end Go.Proofs.YtgmopcncbpdniaaGreat
namespace Go.Proofs.YtgmopcncbpdniaaGreat
variable {n:Nat} {cash:Nat->Int} {d:Nat->Nat->Int}
theorem szQ_sum {a:Nat} {f:Nat->Rat} : ∀ n,(∀ j,j<n->szQ (f j)<=a)->szQ (sumQ f n)<=2+n*(a+1)
 | 0,_=>by simp only [sumQ];have:=szQ_zero;omega
 | n+1,h=>by
  simp only [sumQ];have h1:=szQ_sum n (fun j hj=>h j (by omega));have h2:=h n (by omega);have h3:=szQ_add (sumQ f n) (f n);rw [Nat.add_mul,Nat.one_mul];omega
theorem szQ_small (z:Int) (h:z.natAbs<=1000000):szQ (z:Rat)<=2:=szQ_int z (Nat.lt_of_le_of_lt h (by decide))
theorem szQ_sh (hR:Rng n cash d) (hd:∀ i j,0<=d i j) (j i:Nat) (hj:j<n) (hi:i<n):szQ (shQ n d j i)<=4:=by
 rw [shQ_eq];have h1:=szQ_div ((eI n d j i:Int):Rat) ((tI n d j:Int):Rat) (tI_ne hd j);have t1:=hR.tot j hj;have e1:=hR.deb j i hj hi;have h2:=szQ_small (eI n d j i) (by unfold eI;split <;> omega);have h3:=szQ_small (tI n d j) (by unfold tI;split <;> omega);omega
theorem szQ_tot (hR:Rng n cash d) (i:Nat) (hi:i<n):szQ (totQ n d i)<=2:=szQ_small _ (by have:=hR.tot i hi;omega)
theorem szQ_A (hR:Rng n cash d) (hn:n<=8) (hd:∀ i j,0<=d i j) (F:Nat->Bool) (i j:Nat) (hi:i<rankF F n) (hj:j<rankF F n+1):szQ (solA n (cashQ cash) (totQ n d) (shQ n d) F i j)<=64:=by
 have f1:=(frL_spec F n i hi).2.1;unfold solA;split
 ·rename_i h
  have f2:=(frL_spec F n j h).2.1;have h1:=szQ_sub (if j=i then (1:Rat) else 0) (shQ n d ((frL F n).getD j 0) ((frL F n).getD i 0));have h2:=szQ_sh hR hd _ _ f2 f1;have h3:szQ (if j=i then (1:Rat) else 0)<=2:=by split;exact szQ_one;exact szQ_zero
  omega
 ·show szQ (cashQ cash ((frL F n).getD i 0)+sumQ (fun l=>(if F l=true then 0 else totQ n d l)*shQ n d l ((frL F n).getD i 0)) n)<=64
  have h1:=szQ_sum (a:=6) (f:=fun l=>(if F l=true then 0 else totQ n d l)*shQ n d l ((frL F n).getD i 0)) n (fun l hl=>by
   have h1:=szQ_mul (if F l=true then 0 else totQ n d l) (shQ n d l ((frL F n).getD i 0));have h2:=szQ_sh hR hd l _ hl f1;have h3:szQ (if F l=true then 0 else totQ n d l)<=2:=by split;exact szQ_zero;exact szQ_tot hR l hl
   omega)
  have h2:=szQ_add (cashQ cash ((frL F n).getD i 0)) (sumQ (fun l=>(if F l=true then 0 else totQ n d l)*shQ n d l ((frL F n).getD i 0)) n);have h3:szQ (cashQ cash ((frL F n).getD i 0))<=2:=szQ_small _ (by have:=hR.csh _ f1;omega);have h4:n*(6+1)<=56:=by omega
  omega
structure Rdy (n:Nat) (cash:Nat->Int) (d:Nat->Nat->Int) (F:Nat->Bool) (x p:Nat->Rat):Prop where
 piv:∀ c,c<rankF F n->0<triQ (solA n (cashQ cash) (totG (fun _=>false) n d) (shQ n d) F) c c c
 siz:∀ c,c<=rankF F n->∀ i j,i<rankF F n->j<rankF F n+1->szQ (triQ (solA n (cashQ cash) (totG (fun _=>false) n d) (shQ n d) F) c i j)<=25000000
 res:∀ i,i<rankF F n->resid (rankF F n) i (triQ (solA n (cashQ cash) (totG (fun _=>false) n d) (shQ n d) F) (rankF F n)) x i=0
 small:∀ i,i<rankF F n->szQ (x i)<=200
 pay:∀ i,p i=if F i then x (rankF F i) else totG (fun _=>false) n d i
 sol:SolF n (cashQ cash) (totQ n d) (shQ n d) F p
theorem rdy_of (hR:Rng n cash d) (hn:n<=8) (hd:∀ i j,0<=d i j) {F:Nat->Bool} (hF:NoClosed n (shQ n d) (fun i=>F i=true)):∃ x p,Rdy n cash d F x p:=by
 have hm:=mktQ_of hR hd;have hmm:=solA_mm hm F hF;have hpv:∀ c,c<rankF F n->0<triQ (solA n (cashQ cash) (totQ n d) (shQ n d) F) c c c:=fun c hc=>(hmm.tri c (Nat.le_of_lt hc)).pivot hc
 have hne:∀ c,c<rankF F n->triQ (solA n (cashQ cash) (totQ n d) (shQ n d) F) c c c≠0:=fun c hc e=>by have:=hpv c hc;rw [e] at this;exact absurd this Rat.lt_irrefl
 have hkn:=rankF_le F n
 have hsz:∀ c,c<=rankF F n->∀ i j,i<rankF F n->j<rankF F n+1->szQ (triQ (solA n (cashQ cash) (totQ n d) (shQ n d) F) c i j)<=25000000:=fun c hc i j hi hj=>by
  have h1:=szQ_tri (K:=64) (n:=rankF F n) (m:=rankF F n+1) (by omega) (by omega) (fun i j hi hj=>szQ_A hR hn hd F i j hi hj) hne c hc i j hi hj;have h2:5 ^ c<=5 ^ 8:=Nat.pow_le_pow_right (by omega) (by omega);have h3:5 ^ c*64<=5 ^ 8*64:=Nat.mul_le_mul_right _ h2;have h4:(5:Nat) ^ 8*64=25000000:=by decide
  omega
 obtain⟨x,hx⟩:=tri_solution (rankF F n) (triQ (solA n (cashQ cash) (totQ n d) (shQ n d) F) (rankF F n)) (fun i hi=>by
  have h1:=triQ_row (solA n (cashQ cash) (totQ n d) (shQ n d) F) i i (rankF F n - i) i jl;rw [show i+(rankF F n - i)=rankF F n by omega] at h1;rw [h1];exact hne i hi)
 have hs:=sol_of hm F hF x (fun i=>if F i then x (rankF F i) else totQ n d i) hx (fun i _=>rfl);refine⟨x,fun i=>if F i then x (rankF F i) else totQ n d i,?_,?_,?_,fun i hi=>?_,fun i=>by rw [totG_none],hs⟩
 ·rw [totG_none];exact hpv
 ·rw [totG_none];exact hsz
 ·rw [totG_none];exact hx
 ·have h1:=frL_spec F n i hi;have h2:=(pay_small hR hn hd hF hs ((frL F n).getD i 0) h1.2.1).1;simp only [h1.1,h1.2.2,if_true] at h2;exact h2
variable {n:Nat} {cash:Nat->Int} {d:Nat->Nat->Int} {ps:(Nat->Bool)->Nat->Rat}
def PsOK (n:Nat) (cash:Nat->Int) (d:Nat->Nat->Int) (ps:(Nat->Bool)->Nat->Rat):Prop:=∀ F:Nat->Bool,NoClosed n (shQ n d) (fun i=>F i=true)->∃ x,Rdy n cash d F x (ps F)
theorem ps_ex (hR:Rng n cash d) (hn:n<=8) (hd:∀ i j,0<=d i j):∃ ps,PsOK n cash d ps:=by
 have h:∀ F:Nat->Bool,∃ p:Nat->Rat,NoClosed n (shQ n d) (fun i=>F i=true)->∃ x,Rdy n cash d F x p:=fun F=>by
  by_cases hF:NoClosed n (shQ n d) (fun i=>F i=true)
  ·obtain⟨x,p,h⟩:=rdy_of hR hn hd hF;exact⟨p,fun _=>⟨x,h⟩⟩
  ·exact⟨fun _=>0,fun h=>absurd h hF⟩
 exact⟨fun F=>Classical.choose (h F),fun F=>Classical.choose_spec (h F)⟩
def newF (n:Nat) (cash:Nat->Int) (d:Nat->Nat->Int) (ps:(Nat->Bool)->Nat->Rat) (F:Nat->Bool) (i:Nat):Bool:=!F i && decide (hasP n (cashQ cash) (shQ n d) (ps F) i<totQ n d i)
def FS (n:Nat) (cash:Nat->Int) (d:Nat->Nat->Int) (ps:(Nat->Bool)->Nat->Rat):Nat->Nat->Bool
 | 0=>fun _=>false
 | q+1=>fun i=>FS n cash d ps q i || newF n cash d ps (FS n cash d ps q) i
def NW (n:Nat) (cash:Nat->Int) (d:Nat->Nat->Int) (ps:(Nat->Bool)->Nat->Rat) (q:Nat):Nat->Bool:=newF n cash d ps (FS n cash d ps q)
def PS (n:Nat) (cash:Nat->Int) (d:Nat->Nat->Int) (ps:(Nat->Bool)->Nat->Rat) (q:Nat):Nat->Rat:=ps (FS n cash d ps q)
theorem rnd_all (hps:PsOK n cash d ps) (hR:Rng n cash d) (hd:∀ i j,0<=d i j):∀ q,RndJ n (cashQ cash) (totQ n d) (shQ n d) (FS n cash d ps q)
 | 0=>rndJ_zero _ _ _ _ _ (fun _=>rfl)
 | q+1=>by
  have ih:=rnd_all hps hR hd q;obtain⟨x,hx⟩:=hps _ ih.nc;refine rndJ_next (mktQ_of hR hd) ih hx.sol (fun i hi=>?_);simp only [FS,newF];by_cases h:FS n cash d ps q i=true
  ·simp [h]
  ·simp [h]
theorem ps_rdy (hps:PsOK n cash d ps) (hR:Rng n cash d) (hd:∀ i j,0<=d i j) (q:Nat):∃ x,Rdy n cash d (FS n cash d ps q) x (PS n cash d ps q):=hps _ (rnd_all hps hR hd q).nc
theorem nw_not {q i:Nat} (h:NW n cash d ps q i=true):FS n cash d ps q i=false:=by
 unfold NW newF at h;cases hF:FS n cash d ps q i
 ·rfl
 ·rw [hF] at h;simp at h
theorem nw_iff (q i:Nat):NW n cash d ps q i=(!FS n cash d ps q i && decide (hasP n (cashQ cash) (shQ n d) (PS n cash d ps q) i<totQ n d i)):=rfl
theorem fs_succ (q i:Nat):FS n cash d ps (q+1) i=(FS n cash d ps q i || NW n cash d ps q i):=rfl
theorem rankF_or {F G:Nat->Bool} (h:∀ i,G i=true->F i=false):∀ n,rankF (fun i=>F i || G i) n=rankF F n+rankF G n
 | 0=>rfl
 | n+1=>by
  rw [rankF_succ,rankF_succ,rankF_succ,rankF_or h n];cases hg:G n
  ·simp;omega
  ·rw [h n hg];simp;omega
theorem fs_rank (q:Nat):rankF (FS n cash d ps (q+1)) n=rankF (FS n cash d ps q) n+rankF (NW n cash d ps q) n:=rankF_or (fun i h=>nw_not h) n
theorem cmpQ_lt (a b:Rat):decide (cmpQ a b<0)=decide (a<b):=by
 have h:(cmpQ a b<0)↔a<b:=by
  have h1:cmpQ a b<0↔a.num*(b.den:Int) - b.num*(a.den:Int)<0:=by
   unfold cmpQ sgnZ;split
   ·omega
   ·split <;> omega
  rw [h1,Rat.lt_iff];omega
 exact decide_eq_decide.2 h
open Go.RowKit
attribute [local go_sem ↓] Go.wp_at_zero Go.wp_at_succ
def mem (s i:Nat):List Nat:=(List.range i).filter (fun t=>s.testBit t)
def intC (l:List Nat):List Value:=l.map (fun t=>.int .i64 (t:Nat))
theorem i64_and1 (n:Int):bits .and .i64 n 1=n % 2:=by
 have h1:(BitVec.ofInt 64 1).toNat=2 ^ 1 - 1:=by decide
 have key:(BitVec.ofInt 64 n &&& BitVec.ofInt 64 1).toNat=(n % ((2 ^ 64:Nat):Int)).toNat % 2 ^ 1:=by
  rw [BitVec.toNat_and,BitVec.toNat_ofInt,h1,Nat.and_two_pow_sub_one_eq_mod]
 show IntKind.i64.wrap ((BitVec.ofInt 64 n &&& BitVec.ofInt 64 1).toNat:Nat)=n % 2;rw [key,IntKind.wrap_i64];omega
theorem mem_succ (s i:Nat):mem s (i+1)=mem s i ++ if s.testBit i then [i] else []:=by
 unfold mem;rw [List.range_succ,List.filter_append];congr 1;by_cases h:s.testBit i <;> simp [h]
theorem mem_done (s i:Nat) (h:s<2 ^ i):∀ k,mem s (i+k)=mem s i
 | 0=>rfl
 | k+1=>by
  rw [<-Nat.add_assoc,mem_succ,mem_done s i h k];have h2:s<2 ^ (i+k):=jm h (Nat.pow_le_pow_right (by omega) (by omega));rw [Nat.testBit_lt_two_pow h2];simp
theorem mem_len (s:Nat):∀ i,(mem s i).length<=i
 | 0=>by simp [mem]
 | i+1=>by
  rw [mem_succ,List.length_append];have:=mem_len s i;split <;> simp <;> omega
theorem intC_app (l:List Nat) (i:Nat):intC l ++ [.int .i64 (i:Nat)]=intC (l ++ [i]):=by simp [intC]
theorem members_any (s:Nat) (w:World) (hs:s<1024) :
  Calls Tryz.prog 77 #[.int .i64 (s:Nat)] w fun e w'=>∃ va vk,e = .returned (.slice va (mem s 10).length vk)/\w'.ownsRow w.heap.size 3 1 (.slice va (mem s 10).length vk) (mem s 10).length (intC (mem s 10))/\Below w.heap.size w w':=by
 obtain⟨i0,hinf,hz0,hz1,hz2⟩:=info_parts infoI;have KW0:=jj (jr w);go_enter Tryz.func77,Tryz.ntmps77;go_wp2;go_loopw [3,4] (fun v3 v4 wr=>∃ i:Nat,i<=10/\v4 = .int .i64 (i:Nat)/\∃ va vk,v3 = .slice va (mem s i).length vk/\Hid (wr.ownsRow w.heap.size 3 1 (.slice va (mem s i).length vk) (mem s i).length (intC (mem s i)))/\Hid (Below w.heap.size w wr)) (fun _ v4 _=>10 - (intOf v4).toNat)
 case atStart=>exact⟨0,by omega,rfl,none,0,rfl,jj (World.ownsRow_nil _ _ _ _),KW0⟩
 case round=>
  clear KW0;obtain⟨i,hi,rfl,va,vk,rfl,OW,KW⟩:=hrel;have hdiv:(s:Int) / 2 ^ i=((s / 2 ^ i:Nat):Int):=by simp
  by_cases hq:s / 2 ^ i=0
  ·have d1:decide ((0:Int)<(s:Int) / 2 ^ i)=false:=by rw [hdiv,hq];rfl
   have hlt:s<2 ^ i:=(Nat.div_eq_zero_iff_lt (Nat.two_pow_pos i)).1 hq;have hm:=mem_done s i hlt (10 - i);rw [show i+(10 - i)=10 by omega] at hm;have HM:=jj hm;clear hm hdiv;go_wp2;go_ret;rw [HM.out];exact⟨va,vk,rfl,OW.out,KW.out⟩
  ·have hi10:i<10:=by
    rcases Nat.lt_or_ge i 10 with h | h
    ·exact h
    ·exact absurd (Nat.div_eq_of_lt (jm hs (Nat.pow_le_pow_right (n:=2) (by omega) h))) hq
   have d1:decide ((0:Int)<(s:Int) / 2 ^ i)=true:=decide_eq_true (by rw [hdiv];exact Int.natCast_pos.2 (Nat.pos_of_ne_zero hq))
   have hbit:(bits .and .i64 ((s:Int) / 2 ^ i) 1 == 1)=s.testBit i:=by
    rw [i64_and1,hdiv,Nat.testBit_eq_decide_div_mod_eq];by_cases h:s / 2 ^ i % 2=1
    ·rw [decide_eq_true h];have:(((s / 2 ^ i:Nat):Int) % 2)=1:=by omega
     rw [this];rfl
    ·rw [decide_eq_false h];have:(((s / 2 ^ i:Nat):Int) % 2)=0:=by omega
     rw [this];rfl
   have HSZ:=jj KW.out.size;have HBK:=jj OW.out.lt;have HLN:=jj (mem_len s i);have hms:=mem_succ s i;clear hdiv hq;by_cases hb:s.testBit i=true
   ·rw [hb] at hbit;rw [hb,if_pos rfl] at hms;have HMS:=jj hms;clear hms hb;go_wp2_with (at_builtin;refine wpList_append_own _ rfl (.tmp 16) (.tmp 18) 24 rfl w.heap.size 3 i0 (.int .i64 0) 1 8 Tryz.underlying24 hinf hz0 hz1 hz2 rfl (by decide) (.slice va (mem s i).length vk) (mem s i).length (intC (mem s i)) rfl (OW.out.alloc _) ⟨wr.heap.size,0,none⟩ 1 1 [.int .i64 (i:Nat)] rfl rfl (new1 wr (.int .i64 (i:Nat)) 3) (one1 _ rfl) (by have:=HLN.out;unfold maxLen;omega) (by have:=HLN.out;omega) (by simp;have:=HSZ.out;omega) ?_;intro v' w5 hown hgrow _;have KW:=jj ((KW.out.alloc KW.out.size _).grown hgrow (by have:=HSZ.out;simp;omega) (fun kk e=>(HBK.out kk e).1));rw [intC_app,<-HMS.out] at hown;obtain⟨va',vk',rfl⟩:=own_shape hown;have OW:=jj hown;clear hown hgrow);go_roundw
    case rel=>
     have hl:(mem s (i+1)).length=(mem s i).length+1:=by rw [HMS.out];simp
     exact⟨i+1,by omega,by go_num,va',vk',by rw [hl],by rw [hl];exact OW,KW⟩
    case measure=>simp [intOf];omega
   ·have hb2:s.testBit i=false:=by simpa using hb
    rw [hb2] at hbit hms;have hms2:mem s (i+1)=mem s i:=by simpa using hms
    have HMS:=jj hms2;clear hms hms2 hb hb2;go_wp2;go_roundw
    case rel=>exact⟨i+1,by omega,by go_num,va,vk,by rw [HMS.out],by rw [HMS.out];exact OW,KW⟩
    case measure=>simp [intOf];omega
def Balances (n:Nat) (f:Nat->Int):Prop:=1<=n/\n<=10/\(∀ i,i<n->-10000<=f i/\f i<=10000)/\sumF f n=0
theorem balanced_any (v:Value) (n:Nat) (f:Nat->Int) (r:Bool) (hr:r=true↔Balances n f) (w:World) (hv:Ints w v n f) (hn:n<=1048576) :
  Calls Tryz.prog 75 #[v] w fun e w'=>e = .returned (.bool r)/\w=w':=by
 obtain⟨a,b,o,c,rfl,hs⟩:=hv;have HR:=jj hr;have HS:=jj hs;clear hr hs;by_cases h1:n<1
 ·obtain rfl:r=false:=bool_false HR.out (fun q=>by have:=q.1;omega);have d1:decide ((n:Int)<1)=true:=by simp;omega
  clear h1;go_enter Tryz.func75,Tryz.ntmps75;go_wp2;go_ret;exact⟨rfl,rfl⟩
 ·have d1:decide ((n:Int)<1)=false:=by simp;omega
  by_cases h2:10<n
  ·obtain rfl:r=false:=bool_false HR.out (fun q=>by have:=q.2.1;omega);have d2:decide ((10:Int)<(n:Int))=true:=by simp;omega
   clear h1 h2;go_enter Tryz.func75,Tryz.ntmps75;go_wp2;go_ret;exact⟨rfl,rfl⟩
  ·have d2:decide ((10:Int)<(n:Int))=false:=by simp;omega
   have n10:n<=10:=by omega
   have n1:1<=n:=by omega
   clear h1 h2;go_enter Tryz.func75,Tryz.ntmps75;go_wp2;go_loopw [3,16] (fun v3 v16 wr=>∃ k:Nat,k<=n/\v16 = .int .i64 (k:Nat)/\v3 = .int .i64 (sumF f k)/\Hid (∀ i,i<k->-10000<=f i/\f i<=10000)/\w=wr) (fun _ v16 _=>n - (intOf v16).toNat)
   case atStart=>exact⟨0,by omega,rfl,rfl,jj (fun i hi=>by omega),rfl⟩
   case round=>
    obtain⟨k,hk,rfl,rfl,HX,rfl⟩:=hrel;by_cases h:k<n
    ·have hix:=fun W=>ixI HS.out k c h W
     have hc:=HS.out.cell k h;simp only [ic] at hc;by_cases h3:f k < -10000
     ·obtain rfl:r=false:=bool_false HR.out (fun q=>by have:=q.2.2.1 k h;omega);have d3:decide (f k < -10000)=true:=by simpa using h3
      clear h3;go_wp2;go_ret;exact⟨rfl,rfl⟩
     ·have d3:decide (f k < -10000)=false:=by simpa using h3
      by_cases h4:10000<f k
      ·obtain rfl:r=false:=bool_false HR.out (fun q=>by have:=q.2.2.1 k h;omega);have d4:decide ((10000:Int)<f k)=true:=by simpa using h4
       clear h3 h4;go_wp2;go_ret;exact⟨rfl,rfl⟩
      ·have d4:decide ((10000:Int)<f k)=false:=by simpa using h4
       have b2:=sumF_bound f k 10000 (fun i hi=>by have:=HX.out i hi;omega);have hwr:IntKind.i64.wrap (sumF f k+f k)=sumF f k+f k:=by rw [IntKind.wrap_i64];omega
       have HX2:Hid (∀ i,i<k+1->-10000<=f i/\f i<=10000):=jj (fun i hi=>by
        by_cases e:i=k
        ·subst e;omega
        ·exact HX.out i (by omega))
       clear h3 h4 b2;go_wp2;go_roundw
       case rel=>exact⟨k+1,by omega,by go_num,rfl,HX2,by first | rfl | trivial⟩
       case measure=>simp [intOf];omega
    ·obtain rfl:k=n:=by omega
     by_cases h5:sumF f k=0
     ·obtain rfl:r=true:=HR.out.2 ⟨n1,n10,HX.out,h5⟩;have d5:(sumF f k == 0)=true:=by simpa using h5
      clear h5;go_wp2;go_ret;exact⟨rfl,rfl⟩
     ·obtain rfl:r=false:=bool_false HR.out (fun q=>h5 q.2.2.2);have d5:(sumF f k == 0)=false:=by simpa using h5
      clear h5;go_wp2;go_ret;exact⟨rfl,rfl⟩
end Go.Proofs.YtgmopcncbpdniaaGreat
