import Derived.Test.YtgmopcncbpdniaaGreatKShelf
import Derived.Test.YtgmopcncbpdniaaGreatKFloat3
import Derived.Test.YtgmopcncbpdniaaGreatKGrp2
import Derived.Test.YtgmopcncbpdniaaGreatKPlainN
import Derived.Test.YtgmopcncbpdniaaGreatKInt5
import Derived.Test.YtgmopcncbpdniaaGreatKPlainFr
import Derived.Test.YtgmopcncbpdniaaGreatKLstW
set_option maxHeartbeats 4000000
set_option maxRecDepth 100000
set_option linter.unusedVariables false
set_option linter.unusedSimpArgs false
namespace Go.Proofs.YtgmopcncbpdniaaGreat
open Go.RowKit
attribute [local go_sem ↓] Go.wp_at_zero Go.wp_at_succ
def dueQ (n:Nat) (cash:Nat->Int) (d:Nat->Nat->Int) (q:Nat->Rat) (i:Nat):Rat:=if hasP n (cashQ cash) (shQ n d) q i<totQ n d i then hasP n (cashQ cash) (shQ n d) q i else totQ n d i
theorem due_any (vc vd vp:Value) (n i:Nat) (cash:Nat->Int) (d:Nat->Nat->Int) (q:Nat->Rat) (K:Nat) (w:World) (hc:Ints w vc n cash) (hm:Mat w vd n (fun _=>n) d) (hp:VSl w vp n q K) (hi:i<n) (hn:n<=8) (hC:∀ i,i<n->0<=cash i/\cash i<=1000) (hd:∀ i j,0<=d i j) (hR:∀ i j,i<n->j<n->d i j<=1000) (hT:∀ i,i<n->sumF (d i) n<=100000) (hK5:5<=K) (hK:K<=100000000) :
  Calls Tryz.prog 63 #[vc,vd,vp,.int .i64 (i:Nat)] w fun ex w'=>∃ r,ex = .returned r/\QV w' r (dueQ n cash d q i) (1024*(K+1)+1)/\Below w.heap.size w w':=by
 have HDM:=jj hm;have HP:=jj hp;obtain⟨da,b,o,dc,ra,rb,ro,rc,rfl,hdm⟩:=hm;obtain⟨ca,cb,co,cc,rfl,hcs⟩:=hc;have HM:=jj hdm;have HCS:=jj hcs;have HD0:=jj hd;have HR0:=jj hR;have HT0:=jj hT;have HC0:=jj hC;have HROW0:=jj (hdm.row i hi).ints;have y0:=hdm.top.cell i hi;have y1:=hcs.cell i hi;simp only [ic] at y1;have HY:=jj (And.intro y0 y1);have HYL:=jj (And.intro (hdm.top.lt (by omega)) (hcs.lt (by omega)));clear hdm hcs hd hR hT hC hp y0 y1;have RO0:=jj (own4_new w w.heap.size rfl (.bool false) (.slice none 0 0) (.bool false) (.slice none 0 0) 40);have KW0:=jj (boxes1 w (.cells #[.bool false,.slice none 0 0,.bool false,.slice none 0 0] 40));have ixc:=fun W=>ixI HCS.out i cc hi W
 have ixd:=fun W=>ixM HM.out.top i dc hi W
 have HW:Hid (-9223372036854775808<=cash i/\cash i<9223372036854775808):=jj (by have:=HC0.out i hi;omega);have HT:Hid (-9223372036854775808<=sumF (d i) n/\sumF (d i) n<9223372036854775808):=jj (by have:=HT0.out i hi;have:=sumF_nn (HD0.out i) n;omega);have HDT:Hid (∀ l,l<n->-(1099511627776:Int)<=d i l/\d i l<=1099511627776):=jj (fun l hl=>by have:=HR0.out i l hi hl;have:=HD0.out i l;omega);go_enter Tryz.func63,Tryz.ntmps63;go_wp2_with fail;have HDM:=jj (HDM.out.mono KW0.out jl);have HP:=jj (HP.out.mono KW0.out jl);have HROW:=jj (HROW0.out.mono KW0.out jl);generalize w.alloc (.cells #[.bool false,.slice none 0 0,.bool false,.slice none 0 0] 40)=wb at *
 have keepR:Hid (∀ w',Below wb.heap.size wb w'->w'.cell? ⟨cb,co+i,none⟩=some (.int .i64 (cash i))/\w'.cell? ⟨b,o+i,none⟩=some (.slice (ra i) n (rc i))):=
  jj (fun w' hb=>⟨bel1 hb (bel1 KW0.out HY.out.2 HYL.out.2) (jm HYL.out.2 KW0.out.size),bel1 hb (bel1 KW0.out HY.out.1 HYL.out.1) (jm HYL.out.1 KW0.out.size)⟩)
 have VL:=jj (jr wb).drew;have HST:StaysB (fun w'=>w'.cell? ⟨cb,co+i,none⟩=some (.int .i64 (cash i))/\w'.cell? ⟨b,o+i,none⟩=some (.slice (ra i) n (rc i))):=fun w1 w2 h hb=>⟨cell_stays h.1 hb,cell_stays h.2 hb⟩
 refine wp_region_box2 HST (d:=9) (d2:=10) (zs:=#[.bool false,.slice none 0 0,.bool false,.slice none 0 0]) (t:=40) (by kernel_rfl) (by kernel_rfl) rfl rfl (fun a w=>by kernel_rfl) (fun a w=>by kernel_rfl) (by kernel_rfl) (fun _ _ _ _ _ h=>h) (keepR.out _ VL.out) (by simp [undef]) (fun hHeld=>?_);simp only [List.pop_toArray,List.dropLast_cons_cons,List.dropLast_singleton];refine wte_begin [0,1,2,3,5,6,7,10,11,12,13] ?_
 iterate 11 (refine wte (v:=?_) HST rfl (by kernel_rfl) (fun _ _ _ h=>h) (by kernel_rfl) ?_ hHeld ?_;rotate_left;(focus intro w0 hSw;(try dsimp only at hSw);go_simp;all_goals (with_reducible rfl));simp only [Act.put,js,jz,jc])
 refine wte_end ?_;refine wpAnyE_ready (rs:=[4]) (by kernel_rfl) (by simp) (fun we hext=>?_);have VL:=jj (bl_trans VL.out hext);have hHeld:=HST _ _ hHeld hext;refine AllReadyE.cons rfl (fun Kn hKn=>?_) AllReadyE.nil;go_simp
 (go_at_call 16;(with_reducible refine (qv_whole (cash i) _ HW.out.1 HW.out.2).mono ?_);rintro e w3 ⟨r3,rfl,hr3,hbc⟩;obtain⟨s3,a3,n3,c3,t3,b3,l3,k3,rfl,QK3⟩:=hr3.shape;clear hr3)
 have VL:=jj (bl_trans VL.out hbc);go_wp2_with fail;refine hKn.out _ _ (keepR.out _ VL.out) hbc (fun hHeld=>?_);clear hKn Kn hext hbc
 (try simp only [Act.put,js,jz,jc])
 refine wpAnyE_ready (rs:=[8]) (by kernel_rfl) (by simp) (fun we hext=>?_);have VL:=jj (bl_trans VL.out hext);have hHeld:=HST _ _ hHeld hext;have QK3:=jj (QK3.out.mono hext jl);refine AllReadyE.cons rfl (fun Kn hKn=>?_) AllReadyE.nil;go_simp
 (go_at_call 19;(with_reducible refine (recv_any _ _ n i d q K _ (HDM.out.mono VL.out jl) (HP.out.mono VL.out jl) hi hn HD0.out HR0.out HT0.out hK5 hK).mono ?_);rintro e w4 ⟨r4,rfl,hr4,hbc⟩;have hr4:=QV.of hr4;obtain⟨s4,a4,n4,c4,t4,b4,l4,k4,rfl,QK4⟩:=hr4.shape;clear hr4)
 have QK3:=jj (QK3.out.mono hbc jl);have VL:=jj (bl_trans VL.out hbc);go_wp2_with fail;refine hKn.out _ _ (keepR.out _ VL.out) hbc (fun hHeld=>?_);clear hKn Kn hext hbc
 (try simp only [Act.put,js,jz,jc])
 refine wpAnyE_ready (rs:=[9]) (by kernel_rfl) (by simp) (fun we hext=>?_);have VL:=jj (bl_trans VL.out hext);have hHeld:=HST _ _ hHeld hext;have QK3:=jj (QK3.out.mono hext jl);have QK4:=jj (QK4.out.mono hext jl);refine AllReadyE.cons rfl (fun Kn hKn=>?_) AllReadyE.nil;go_simp
 (go_at_call 18;(with_reducible refine (qv_add _ _ ((cash i:Int):Rat) (sumQ (fun j=>q j*shQ n d j i) n) (512*(K+1)) _ (QK3.out.le (by omega)) QK4.out (by omega)).mono ?_);rintro e w5 ⟨r5,rfl,hr5,hbc⟩;obtain⟨s5,a5,n5,c5,t5,b5,l5,k5,rfl,QK5⟩:=hr5.shape;clear hr5)
 have QK3:=jj (QK3.out.mono hbc jl);have QK4:=jj (QK4.out.mono hbc jl);have VL:=jj (bl_trans VL.out hbc);go_wp2_with fail;refine hKn.out _ _ (keepR.out _ VL.out) hbc (fun hHeld=>?_);clear hKn Kn hext hbc
 (try simp only [Act.put,js,jz,jc])
 refine wpAnyE_ready (rs:=[14]) (by kernel_rfl) (by simp) (fun we hext=>?_);have VL:=jj (bl_trans VL.out hext);have hHeld:=HST _ _ hHeld hext;have QK5:=jj (QK5.out.mono hext jl);refine AllReadyE.cons rfl (fun Kn hKn=>?_) AllReadyE.nil;go_simp
 (go_at_call 17;(with_reducible refine (total_any _ n (d i) _ (HROW.out.mono VL.out jl) (by omega) HDT.out).mono ?_);rintro e w6 ⟨rfl,hd6⟩;have hbc:=hd6.below we.heap.size;clear hd6)
 have QK5:=jj (QK5.out.mono hbc jl);have VL:=jj (bl_trans VL.out hbc);go_wp2_with fail;refine hKn.out _ _ (keepR.out _ VL.out) hbc (fun hHeld=>?_);clear hKn Kn hext hbc
 (try simp only [Act.put,js,jz,jc])
 refine wpAnyE_ready (rs:=[15]) (by kernel_rfl) (by simp) (fun we hext=>?_);have VL:=jj (bl_trans VL.out hext);have hHeld:=HST _ _ hHeld hext;have QK5:=jj (QK5.out.mono hext jl);refine AllReadyE.cons rfl (fun Kn hKn=>?_) AllReadyE.nil;go_simp
 (go_at_call 16;(with_reducible refine (qv_whole (sumF (d i) n) _ HT.out.1 HT.out.2).mono ?_);rintro e w7 ⟨r7,rfl,hr7,hbc⟩;obtain⟨s7,a7,n7,c7,t7,b7,l7,k7,rfl,QK7⟩:=hr7.shape;clear hr7)
 have QK5:=jj (QK5.out.mono hbc jl);have VL:=jj (bl_trans VL.out hbc);go_wp2_with fail;refine hKn.out _ _ (keepR.out _ VL.out) hbc (fun hHeld=>?_);clear hKn Kn hext hbc
 (try simp only [Act.put,js,jz,jc])
 refine wpAnyE_done (by kernel_rfl) (fun we hext=>?_) _;intro x wx hbx hx0 hxz y wy hby hy0 hyz hne;have hxy:=hne x (by rfl);have hyx:=Ne.symm hxy;have VL:=jj (bl_trans (bl_trans (bl_trans VL.out hext) hbx) hby);have QK5:=jj (((QK5.out.mono hext jl).mono hbx jl).mono hby jl);have QK7:=jj (((QK7.out.mono hext jl).mono hbx jl).mono hby jl);have OX:=jj ((own4_block hxz).below hby (own4_block hxz).lt);have OY:=jj (own4_block hyz);obtain⟨x0,x1,x2,x3,xf,xl⟩:=OX.out;obtain⟨z0,z1,z2,z3,zf,zl⟩:=OY.out;clear hne hext hbx hby hxz hyz ixc ixd;simp only [Act.put,js,jz,jc];refine lastQ_step rfl (fun Kn hKn=>?_);go_simp;refine hKn.out _ _ ?_;clear hKn Kn
 (try simp only [Act.put,js,jz,jc])
 refine lastQ_step rfl (fun Kn hKn=>?_);go_simp;refine hKn.out _ _ ?_;clear hKn Kn
 (try simp only [Act.put,js,jz,jc])
 have OY1:=OY.out.set4 x (.bool s5) (.slice a5 n5 c5) (.bool t5) (.slice b5 l5 k5) hxy;have OX8:=jj ((OX.out.anew (.bool s5) (.slice a5 n5 c5) (.bool t5) (.slice b5 l5 k5)).set4 y (.bool s7) (.slice a7 n7 c7) (.bool t7) (.slice b7 l7 k7) hyx);have OY8:=jj (OY1.anew (.bool s7) (.slice a7 n7 c7) (.bool t7) (.slice b7 l7 k7));have Q5:=jj ((QK5.out.at4 OX.out (.bool s5) (.slice a5 n5 c5) (.bool t5) (.slice b5 l5 k5)).at4 OY1 (.bool s7) (.slice a7 n7 c7) (.bool t7) (.slice b7 l7 k7));have Q7:=jj ((QK7.out.at4 OX.out (.bool s5) (.slice a5 n5 c5) (.bool t5) (.slice b5 l5 k5)).at4 OY1 (.bool s7) (.slice a7 n7 c7) (.bool t7) (.slice b7 l7 k7));have hw0:=RO0.out.lt;have RO8:=jj (((RO0.out.below VL.out RO0.out.lt).set4 x (.bool s5) (.slice a5 n5 c5) (.bool t5) (.slice b5 l5 k5) (by omega)).set4 y (.bool s7) (.slice a7 n7 c7) (.bool t7) (.slice b7 l7 k7) (by omega));have KW8:=jj (below_set4q (below_set4q (jb KW0.out VL.out) (b:=x) (by omega) (.bool s5) (.slice a5 n5 c5) (.bool t5) (.slice b5 l5 k5)) (b:=y) (by omega) (.bool s7) (.slice a7 n7 c7) (.bool t7) (.slice b7 l7 k7));clear OY1 QK5 QK7 OX OY x0 x1 x2 x3 xf xl z0 z1 z2 z3 zf zl hHeld HST;generalize ((((((((wy.setCell ⟨x,0,none⟩ (.bool s5)).setCell ⟨x,1,none⟩ (.slice a5 n5 c5)).setCell ⟨x,2,none⟩ (.bool t5)).setCell ⟨x,3,none⟩ (.slice b5 l5 k5)).setCell ⟨y,0,none⟩ (.bool s7)).setCell ⟨y,1,none⟩ (.slice a7 n7 c7)).setCell ⟨y,2,none⟩ (.bool t7)).setCell ⟨y,3,none⟩ (.slice b7 l7 k7))=w8 at *
 obtain⟨x0,x1,x2,x3,xf,xl⟩:=OX8.out;obtain⟨z0,z1,z2,z3,zf,zl⟩:=OY8.out;have HX:Hid (((cash i:Int):Rat)+sumQ (fun j=>q j*shQ n d j i) n=hasP n (cashQ cash) (shQ n d) q i):=jj rfl;have HT2:Hid (((sumF (d i) n:Int):Rat)=totQ n d i):=jj rfl;rw [HX.out] at Q5;rw [HT2.out] at Q7;by_cases hlt:hasP n (cashQ cash) (shQ n d) q i<totQ n d i
 ·have e1:decide (cmpR (hasP n (cashQ cash) (shQ n d) q i) (totQ n d i)<0)=true:=by unfold cmpR;rw [if_pos hlt];rfl
  have HD:Hid (dueQ n cash d q i=hasP n (cashQ cash) (shQ n d) q i):=jj (by unfold dueQ;rw [if_pos hlt]);clear hlt;go_wp2_with fail;refine (qv_cmp _ _ (hasP n (cashQ cash) (shQ n d) q i) (totQ n d i) (2*(512*(K+1))+1) _ Q5.out (Q7.out.le (by omega)) (by omega)).mono ?_;rintro e w9 ⟨rfl,hb9⟩;have OX8:=jj (OX8.out.below hb9 OX8.out.lt);have RO8:=jj (RO8.out.below hb9 RO8.out.lt);have Q5:=jj (Q5.out.mono hb9 jl);have KW8:=jj (jb KW8.out hb9);clear x0 x1 x2 x3 xf xl z0 z1 z2 z3 zf zl hb9;obtain⟨x0,x1,x2,x3,xf,xl⟩:=OX8.out;go_wp2_with fail;refine (qv_low _ _ (2*(512*(K+1))+1) _ Q5.out (by omega)).mono ?_;rintro e w10 ⟨r10,rfl,hr10,hb10⟩;obtain⟨s3,a3,n3,c3,t3,b3,l3,k3,rfl,QK⟩:=(QV.of hr10).shape;have RO8:=jj (RO8.out.below hb10 RO8.out.lt);have KW8:=jj (jb KW8.out hb10);clear x0 x1 x2 x3 xf xl hb10 hr10;obtain⟨x0,x1,x2,x3,xf,xl⟩:=RO8.out;go_wp2_with fail;refine bodyPost_ret (v:=.agg #[.bool s3,.slice a3 n3 c3,.bool t3,.slice b3 l3 k3]) (by simp [results,Tryz.results63,go_sem,x0,x1,x2,x3,xf,xl]) rfl ?_;exact⟨_,rfl,by rw [HD.out];exact (QK.out.le (by omega)).at4 RO8.out _ _ _ _,below_set4q KW8.out (by omega) _ _ _ _⟩
 ·have e1:decide (cmpR (hasP n (cashQ cash) (shQ n d) q i) (totQ n d i)<0)=false:=by rw [cmpR_lt];simpa using hlt
  have HD:Hid (dueQ n cash d q i=totQ n d i):=jj (by unfold dueQ;rw [if_neg hlt]);clear hlt;go_wp2_with fail;refine (qv_cmp _ _ (hasP n (cashQ cash) (shQ n d) q i) (totQ n d i) (2*(512*(K+1))+1) _ Q5.out (Q7.out.le (by omega)) (by omega)).mono ?_;rintro e w9 ⟨rfl,hb9⟩;have OY8:=jj (OY8.out.below hb9 OY8.out.lt);have RO8:=jj (RO8.out.below hb9 RO8.out.lt);have Q7:=jj (Q7.out.mono hb9 jl);have KW8:=jj (jb KW8.out hb9);clear x0 x1 x2 x3 xf xl z0 z1 z2 z3 zf zl hb9;obtain⟨z0,z1,z2,z3,zf,zl⟩:=OY8.out;obtain⟨x0,x1,x2,x3,xf,xl⟩:=RO8.out;go_wp2_with fail;refine bodyPost_ret (v:=.agg #[.bool s7,.slice a7 n7 c7,.bool t7,.slice b7 l7 k7]) (by simp [results,Tryz.results63,go_sem,x0,x1,x2,x3,xf,xl]) rfl ?_;exact⟨_,rfl,by rw [HD.out];exact (Q7.out.le (by omega)).at4 RO8.out _ _ _ _,below_set4q KW8.out (by omega) _ _ _ _⟩
theorem cmpR_zero (a b:Rat):cmpR a b=0↔a=b:=by
 unfold cmpR;by_cases h:a<b
 ·rw [if_pos h];constructor
  ·intro e;cases e
  ·intro e;rw [e] at h;exact absurd h Rat.lt_irrefl
 ·rw [if_neg h];split <;> simp_all
def RClr (n:Nat) (cash:Nat->Int) (d:Nat->Nat->Int) (q:Nat->Rat) (k:Nat):Prop:=∀ i,i<k->0<=q i/\q i=dueQ n cash d q i
theorem rclears_any (vc vd vp:Value) (n:Nat) (cash:Nat->Int) (d:Nat->Nat->Int) (q:Nat->Rat) (K:Nat) (r:Bool) (w:World) (hr:r=true↔RClr n cash d q n) (hc:Ints w vc n cash) (hm:Mat w vd n (fun _=>n) d) (hp:VSl w vp n q K) (hn:n<=8) (hC:∀ i,i<n->0<=cash i/\cash i<=1000) (hd:∀ i j,0<=d i j) (hR:∀ i j,i<n->j<n->d i j<=1000) (hT:∀ i,i<n->sumF (d i) n<=100000) (hK5:5<=K) (hK:K<=100000000) :
  Calls Tryz.prog 32 #[vc,vd,vp] w fun ex w'=>ex = .returned (.bool r)/\Below w.heap.size w w':=by
 have HDM:=jj hm;have HP:=jj hp;have HC:=jj hc;obtain⟨da,b,o,dc,ra,rb,ro,rc,rfl,-⟩:=hm;obtain⟨ca,cb,co,cc,rfl,-⟩:=hc;obtain⟨g,gc,rfl,hgc,hgl,hgv⟩:=hp.val;have HV:=jj hgv;have HGL:=jj hgl;have HD0:=jj hd;have HR0:=jj hR;have HT0:=jj hT;have HC0:=jj hC;have HRR:=jj hr;have KW0:=jj (jr w);clear hgv hgl hd hR hT hC hp hr;go_enter Tryz.func32,Tryz.ntmps32;go_wp2;go_loopw [7] (fun v7 wr=>∃ k:Nat,k<=n/\v7 = .int .i64 (k:Nat)/\Hid (RClr n cash d q k)/\Hid (Below w.heap.size w wr)) (fun v7 _=>n - (intOf v7).toNat)
 case atStart=>exact⟨0,by omega,rfl,jj (fun i hi=>by omega),KW0⟩
 case round=>
  clear KW0;obtain⟨k,hk,rfl,OK,KW⟩:=hrel;by_cases h:k<n
  ·have e1:decide ((k:Int)<(n:Int))=true:=by simpa using h
   have e1n:decide (k<n)=true:=by simpa using h
   have ixp:=fun W=>ixV g n gc k h W
   obtain⟨s5,a5,n5,c5,t5,b5,l5,k5,z0,z1,z2,z3,zq⟩:=HV.out k h;have QK:=jj (QV.mono zq KW.out jl)
   have keepR:Hid (∀ w',Below wr.heap.size wr w'->w'.cell? ⟨g,k*4,none⟩=some (.bool s5)/\w'.cell? ⟨g,k*4+1,none⟩=some (.slice a5 n5 c5)/\w'.cell? ⟨g,k*4+2,none⟩=some (.bool t5)/\w'.cell? ⟨g,k*4+3,none⟩=some (.slice b5 l5 k5)):=
    jj (fun w' hb=>⟨bel1 hb (bel1 KW.out z0 HGL.out) (jm HGL.out KW.out.size),bel1 hb (bel1 KW.out z1 HGL.out) (jm HGL.out KW.out.size),bel1 hb (bel1 KW.out z2 HGL.out) (jm HGL.out KW.out.size),bel1 hb (bel1 KW.out z3 HGL.out) (jm HGL.out KW.out.size)⟩)
   have VL:=jj (jr wr).drew;clear zq z0 z1 z2 z3;by_cases hz:q k<0
   ·have d1:decide (cmpR (q k) 0<0)=true:=by rw [cmpR_lt];simpa using hz
    have HF:Hid (r=false):=jj (by
     rcases hr0:r with _ | _
     ·rfl
     ·have:=(HRR.out.1 hr0 k h).1;exact absurd hz (Rat.not_lt.2 this))
    clear hz;go_wp2;refine wp_region_held_drew (S:=fun w'=>w'.cell? ⟨g,k*4,none⟩=some (.bool s5)/\w'.cell? ⟨g,k*4+1,none⟩=some (.slice a5 n5 c5)/\w'.cell? ⟨g,k*4+2,none⟩=some (.bool t5)/\w'.cell? ⟨g,k*4+3,none⟩=some (.slice b5 l5 k5)) (by kernel_rfl) (keepR.out _ VL.out) (fun hHeld=>?_);refine wtk_begin [0,1,2,3,4] ?_
    iterate 5 (refine wtk (v:=?_) rfl (by kernel_rfl) (fun _ _ _ h=>h) (by kernel_rfl) ?_ (by assumption) ?_;rotate_left;(focus intro w0 hSw;(try dsimp only at hSw);go_simp;all_goals (with_reducible rfl));simp only [Act.put,js,jz,jc])
    refine wtk_end ?_;refine wpAnyH_ready (rs:=[5]) (by kernel_rfl) (by simp) ?_;refine AllReadyH.cons rfl (fun Kn hKn=>?_) AllReadyH.nil;go_simp
    (go_at_call 29;(with_reducible refine (qv_sign (q k) K _ (QK.out.mono VL.out jl)).mono ?_);rintro e w3 ⟨rfl,hb3⟩;have VL:=jj (jb VL.out hb3))
    go_wp2_with fail;refine hKn.out _ _ (keepR.out _ VL.out) (fun hHeld=>?_);clear hKn Kn
    (try simp only [Act.put,js,jz,jc])
    refine wtk_begin [6,7] ?_
    iterate 2 (refine wtk (v:=?_) rfl (by kernel_rfl) (fun _ _ _ h=>h) (by kernel_rfl) ?_ (by assumption) ?_;rotate_left;(focus intro w0 hSw;(try dsimp only at hSw);go_simp;all_goals (with_reducible rfl));simp only [Act.put,js,jz,jc])
    refine wtk_end ?_;refine wtk_begin [8,9,10,11,12,13,14,15,16,17,18] ?_
    iterate 11 (refine wtk_un rfl (by kernel_rfl) (fun _ _ _ h=>h) (by kernel_rfl) (by assumption) ?_;simp only [jt,jd,je,Act.put,js,jz,jc])
    refine wtk_end ?_;refine wtk_begin [19] ?_
    (refine wtk (v:=?_) rfl (by kernel_rfl) (fun _ _ _ h=>h) (by kernel_rfl) ?_ (by assumption) ?_;rotate_left;(focus intro w0 hSw;(try dsimp only at hSw);go_simp;all_goals (with_reducible rfl));simp only [Act.put,js,jz,jc])
    refine wtk_end ?_;refine wpAnyH_done (by kernel_rfl) ?_ _;go_wp2;go_ret;exact⟨by rw [HF.out];rfl,jb KW.out VL.out⟩
   ·have d1:decide (cmpR (q k) 0<0)=false:=by rw [cmpR_lt];simpa using hz
    have HZ:=jj (Rat.not_lt.1 hz);clear hz;by_cases he:q k=dueQ n cash d q k
    focus
     have d2:(cmpR (q k) (dueQ n cash d q k) != 0)=false:=by rw [(cmpR_zero _ _).2 he];rfl
     have d3:(cmpR (q k) (dueQ n cash d q k) == 0)=true:=by rw [(cmpR_zero _ _).2 he];rfl
     have HE:=jj he;clear he
    rotate_left
    focus
     have d2:(cmpR (q k) (dueQ n cash d q k) != 0)=true:=by
      rw [bne_iff_ne];exact fun e=>he ((cmpR_zero _ _).1 e)
     have d3:(cmpR (q k) (dueQ n cash d q k) == 0)=false:=by
      rw [beq_eq_false_iff_ne];exact fun e=>he ((cmpR_zero _ _).1 e)
     have HF:Hid (r=false):=jj (by
      rcases hr0:r with _ | _
      ·rfl
      ·exact absurd (HRR.out.1 hr0 k h).2 he)
     clear he
    rotate_left
    all_goals
     go_wp2;refine wp_region_held_drew (S:=fun w'=>w'.cell? ⟨g,k*4,none⟩=some (.bool s5)/\w'.cell? ⟨g,k*4+1,none⟩=some (.slice a5 n5 c5)/\w'.cell? ⟨g,k*4+2,none⟩=some (.bool t5)/\w'.cell? ⟨g,k*4+3,none⟩=some (.slice b5 l5 k5)) (by kernel_rfl) (keepR.out _ VL.out) (fun hHeld=>?_);refine wtk_begin [0,1,2,3,4] ?_
     iterate 5 (refine wtk (v:=?_) rfl (by kernel_rfl) (fun _ _ _ h=>h) (by kernel_rfl) ?_ (by assumption) ?_;rotate_left;(focus intro w0 hSw;(try dsimp only at hSw);go_simp;all_goals (with_reducible rfl));simp only [Act.put,js,jz,jc])
     refine wtk_end ?_;refine wpAnyH_ready (rs:=[5]) (by kernel_rfl) (by simp) ?_;refine AllReadyH.cons rfl (fun Kn hKn=>?_) AllReadyH.nil;go_simp
     (go_at_call 29;(with_reducible refine (qv_sign (q k) K _ (QK.out.mono VL.out jl)).mono ?_);rintro e w3 ⟨rfl,hb3⟩;have VL:=jj (jb VL.out hb3))
     go_wp2_with fail;refine hKn.out _ _ (keepR.out _ VL.out) (fun hHeld=>?_);clear hKn Kn
     (try simp only [Act.put,js,jz,jc])
     refine wtk_begin [6,7,8,9,10,11,12,13,14,15] ?_
     iterate 10 (refine wtk (v:=?_) rfl (by kernel_rfl) (fun _ _ _ h=>h) (by kernel_rfl) ?_ (by assumption) ?_;rotate_left;(focus intro w0 hSw;(try dsimp only at hSw);go_simp;all_goals (with_reducible rfl));simp only [Act.put,js,jz,jc])
     refine wtk_end ?_;refine wpAnyH_ready (rs:=[16]) (by kernel_rfl) (by simp) ?_;refine AllReadyH.cons rfl (fun Kn hKn=>?_) AllReadyH.nil;go_simp
     (go_at_call 63;(with_reducible refine (due_any _ _ _ n k cash d q K _ (HC.out.mono (jb KW.out VL.out) jl) (HDM.out.mono (jb KW.out VL.out) jl) (HP.out.mono (jb KW.out VL.out) jl) h hn HC0.out HD0.out HR0.out HT0.out hK5 hK).mono ?_);rintro e w4 ⟨r4,rfl,hr4,hb4⟩;obtain⟨s4,a4,n4,c4,t4,b4,l4,k4,rfl,QD⟩:=hr4.shape;clear hr4;have VL:=jj (jb VL.out hb4))
     go_wp2_with fail;refine hKn.out _ _ (keepR.out _ VL.out) (fun hHeld=>?_);clear hKn Kn
     (try simp only [Act.put,js,jz,jc])
     refine wpAnyH_ready (rs:=[17]) (by kernel_rfl) (by simp) ?_;refine AllReadyH.cons rfl (fun Kn hKn=>?_) AllReadyH.nil;go_simp
     (go_at_call 14;(with_reducible refine (qv_cmp _ _ (q k) (dueQ n cash d q k) (1024*(K+1)+1) _ ((QK.out.mono VL.out jl).le (by omega)) QD.out (by omega)).mono ?_);rintro e w5 ⟨rfl,hb5⟩;have VL:=jj (jb VL.out hb5))
     go_wp2_with fail;refine hKn.out _ _ (keepR.out _ VL.out) (fun hHeld=>?_);clear hKn Kn
     (try simp only [Act.put,js,jz,jc])
     refine wtk_begin [18,19] ?_
     iterate 2 (refine wtk (v:=?_) rfl (by kernel_rfl) (fun _ _ _ h=>h) (by kernel_rfl) ?_ (by assumption) ?_;rotate_left;(focus intro w0 hSw;(try dsimp only at hSw);go_simp;all_goals (with_reducible rfl));simp only [Act.put,js,jz,jc])
     refine wtk_end ?_;refine wpAnyH_done (by kernel_rfl) ?_ _;go_wp2
    ·go_roundw
     case rel=>exact⟨k+1,by omega,by go_num,jj (fun i hi=>by
      by_cases e:i=k
      ·rw [e];exact⟨HZ.out,HE.out⟩
      ·exact OK.out i (by omega)),jj (jb KW.out VL.out)⟩
     case measure=>simp [intOf];omega
    ·go_ret;exact⟨by rw [HF.out];rfl,jb KW.out VL.out⟩
  ·obtain rfl:n=k:=by omega
   have e1:decide ((n:Int)<(n:Int))=false:=by simp
   have HT:Hid (r=true):=jj (HRR.out.2 OK.out);go_wp2;go_ret;exact⟨by rw [HT.out];rfl,KW.out⟩
end Go.Proofs.YtgmopcncbpdniaaGreat
namespace Go.Proofs.YtgmopcncbpdniaaGreat
open Go.RowKit
theorem eqlQ_some (x:Addr) (l c:Nat) (W:World):(binOp .eql 32 (.slice (some x) l c) (.slice none 0 0)).run Tryz.prog W = .ok (.bool false) W:=by
 simp only [binOp];simp [run_equal_slice_nil W 32 40 (some x) l c Tryz.underlying32]
theorem eqlQ_none (W:World):(binOp .eql 32 (.slice none 0 0) (.slice none 0 0)).run Tryz.prog W = .ok (.bool true) W:=by
 simp only [binOp];simp [run_equal_slice_nil W 32 40 none 0 0 Tryz.underlying32]
theorem clr_of3 {n:Nat} {cash:Nat->Int} {d:Nat->Nat->Int} {p:Nat->Rat} (h:RClr n cash d p n):ClrQ n (cashQ cash) (totQ n d) (shQ n d) p:=by
 have hd:∀ i,i<n->0<=p i/\p i<=totQ n d i/\p i<=hasP n (cashQ cash) (shQ n d) p i/\(p i=totQ n d i\/p i=hasP n (cashQ cash) (shQ n d) p i):=fun i hi=>by
  obtain⟨h0,h1⟩:=h i hi;unfold dueQ at h1;split at h1
  ·refine⟨h0,?_,?_,.inr h1⟩ <;> grind
  ·refine⟨h0,?_,?_,.inl h1⟩ <;> grind
 exact⟨fun i hi=>(hd i hi).1,fun i hi=>(hd i hi).2.1,fun i hi=>(hd i hi).2.2.1,fun i hi=>(hd i hi).2.2.2⟩
theorem rclr_of3 {n:Nat} {cash:Nat->Int} {d:Nat->Nat->Int} {p:Nat->Rat} (h:ClrQ n (cashQ cash) (totQ n d) (shQ n d) p):RClr n cash d p n:=fun i hi=>by
 refine⟨h.pos i hi,?_⟩;have h1:=h.tot i hi;have h2:=h.has i hi;have h3:=h.eq i hi;unfold dueQ;split
 ·rcases h3 with e | e
  ·grind
  ·exact e
 ·rcases h3 with e | e
  ·exact e
  ·grind
theorem clr_cong {n:Nat} {c T:Nat->Rat} {S:Nat->Nat->Rat} {x y:Nat->Rat} (h:ClrQ n c T S x) (e:∀ i,i<n->y i=x i):ClrQ n c T S y:=by
 have hh:∀ i,hasP n c S y i=hasP n c S x i:=fun i=>hasP_congr e i
 exact⟨fun i hi=>by rw [e i hi];exact h.pos i hi,fun i hi=>by rw [e i hi];exact h.tot i hi,fun i hi=>by rw [e i hi,hh];exact h.has i hi,fun i hi=>by rw [e i hi,hh];exact h.eq i hi⟩
theorem bool_ex (P:Prop):∃ b:Bool,b=true↔P:=by
 by_cases h:P
 ·exact⟨true,fun _=>h,fun _=>rfl⟩
 ·exact⟨false,fun e=>Bool.noConfusion e,fun e=>absurd e h⟩
def UpB (ls:Bool) (a s:Rat):Prop:=(decide (cmpR a s<0) == ls)=true/\a≠s
theorem all_bound (k:Nat) (hk:k<=4) (B:Nat) (h:B+1=2 ^ k*100000001):100000000<=B/\B<=1700000000/\2*B+1+1=2 ^ (k+1)*100000001:=by
 have h1:2 ^ k<=2 ^ 4:=Nat.pow_le_pow_right (by omega) hk;have h2:1<=2 ^ k:=Nat.one_le_two_pow;have h3:=Nat.mul_le_mul_right 100000001 h1;have h4:=Nat.mul_le_mul_right 100000001 h2;refine⟨by omega,by omega,?_⟩;rw [Nat.pow_succ,Nat.mul_comm (2 ^ k) 2,Nat.mul_assoc];omega
def BR (n:Nat) (cash:Nat->Int) (d:Nat->Nat->Int) (T:Nat->Rat) (w:World) (v:Value) (LB s s0:Nat):Prop:=
 ∃ (sb:Bool) (ab:Option Addr) (nb cb:Nat) (tb:Bool) (bb:Option Addr) (lb kb:Nat),Own4 w LB (.bool sb) (.slice ab nb cb) (.bool tb) (.slice bb lb kb)/\
  ((v = .slice none 0 0/\s<=s0)\/∃ PB cap x,v = .slice (some ⟨PB,0,none⟩) n cap/\VSl w (.slice (some ⟨PB,0,none⟩) n cap) n x 100000000/\ClrQ n (cashQ cash) (totQ n d) (shQ n d) x/\QV w (.agg #[.bool sb,.slice ab nb cb,.bool tb,.slice bb lb kb]) (sumQ x n) 1700000000/\(s0<s->∀ i,i<n->x i=T i))
theorem VSl.at4 {w:World} {g n cap K b:Nat} {q:Nat->Rat} {s t:Bool} {a a2:Option Addr} {m c m2 c2:Nat} (h:VSl w (.slice (some ⟨g,0,none⟩) n cap) n q K) (O:Own4 w b (.bool s) (.slice a m c) (.bool t) (.slice a2 m2 c2)) (u0 u1 u2 u3:Value) (hne:g≠b) :
  VSl ((((w.setCell ⟨b,0,none⟩ u0).setCell ⟨b,1,none⟩ u1).setCell ⟨b,2,none⟩ u2).setCell ⟨b,3,none⟩ u3) (.slice (some ⟨g,0,none⟩) n cap) n q K:=by
 obtain⟨g',cap',e,h1,h2,h3⟩:=h.val;injection e with q1 q2 q3;injection q1 with q1;injection q1 with q1 q4 q5;subst q1 q3
 have k:∀ o,((((w.setCell ⟨b,0,none⟩ u0).setCell ⟨b,1,none⟩ u1).setCell ⟨b,2,none⟩ u2).setCell ⟨b,3,none⟩ u3).cell? ⟨g,o,none⟩=w.cell? ⟨g,o,none⟩:=fun o=>by
  rw [far_set _ _ _ _ _ _ (fun e=>hne e.symm),far_set _ _ _ _ _ _ (fun e=>hne e.symm),far_set _ _ _ _ _ _ (fun e=>hne e.symm),far_set _ _ _ _ _ _ (fun e=>hne e.symm)]
 refine⟨g,cap,rfl,h1,by simp only [World.setCell,Array.size_modify];exact h2,fun j hj=>?_⟩;obtain⟨s',a',m',c',t',a2',m2',c2',k1,k2,k3,k4,k5⟩:=h3 j hj;exact⟨s',a',m',c',t',a2',m2',c2',(k _).trans k1,(k _).trans k2,(k _).trans k3,(k _).trans k4,k5.at4 O u0 u1 u2 u3⟩
section
variable {n:Nat} {cash:Nat->Int} {d:Nat->Nat->Int} {T:Nat->Rat} {w w':World} {v:Value} {LB s s0:Nat}
theorem BR.below (h:BR n cash d T w v LB s s0) (hb:Below w.heap.size w w'):BR n cash d T w' v LB s s0:=by
 obtain⟨sb,ab,nb,cb,tb,bb,lb,kb,h1,h3⟩:=h;refine⟨sb,ab,nb,cb,tb,bb,lb,kb,h1.below hb h1.lt,?_⟩;rcases h3 with h | ⟨PB,cap,x,e,hr,hc,hs,ht⟩
 ·exact .inl h
 ·exact .inr ⟨PB,cap,x,e,hr.mono hb jl,hc,hs.mono hb jl,ht⟩
theorem BR.skip (h:BR n cash d T w v LB s s0) (hn:s≠s0):BR n cash d T w v LB (s+1) s0:=by
 obtain⟨sb,ab,nb,cb,tb,bb,lb,kb,h1,h3⟩:=h;refine⟨sb,ab,nb,cb,tb,bb,lb,kb,h1,?_⟩;rcases h3 with h | ⟨PB,cap,x,e,hr,hc,hs,ht⟩
 ·exact .inl ⟨h.1,by have:=h.2;omega⟩
 ·exact .inr ⟨PB,cap,x,e,hr,hc,hs,fun q=>ht (by omega)⟩
end
theorem sum_cong {n:Nat} {x y:Nat->Rat} (h:∀ i,i<n->x i=y i):sumQ x n=sumQ y n:=sumQ_congr n h
end Go.Proofs.YtgmopcncbpdniaaGreat
namespace Go.Proofs.YtgmopcncbpdniaaGreat
section
variable {n:Nat} {cash:Nat->Int} {d:Nat->Nat->Int}
structure FixK (ls:Bool) (n:Nat) (cash:Nat->Int) (d:Nat->Nat->Int) (F:Nat->Bool) (T:Nat->Rat):Prop where
 h:(ls=true\/∀ i,i<n->freB F (rch (owes d) n) n i=false)/\(∀ i,i<n->sumQ (fun j=>sysQ n cash d F (freB F (rch (owes d) n) n) (-1) i j*T j) n=sysQ n cash d F (freB F (rch (owes d) n) n) (-1) i n)/\
   ∀ i,i<n->0<=T i/\T i<=totQ n d i/\(F i=true->T i=hasP n (cashQ cash) (shQ n d) T i)
theorem up_great {a s:Rat} : UpB false a s↔s<a:=by
 unfold UpB cmpR;by_cases h:a<s
 ·rw [if_pos h];simp;grind
 ·rw [if_neg h];by_cases h2:a=s
  ·rw [if_pos h2];simp [h2,Rat.lt_irrefl]
  ·rw [if_neg h2];simp [h2];grind
theorem up_least {a s:Rat} : UpB true a s↔a<s:=by
 unfold UpB cmpR;by_cases h:a<s
 ·rw [if_pos h];simp;grind
 ·rw [if_neg h];by_cases h2:a=s
  ·rw [if_pos h2];simp [h2,Rat.lt_irrefl]
  ·rw [if_neg h2];simp [h2];grind
theorem best_great {T:Nat->Rat} (hT:∀ p,ClrQ n (cashQ cash) (totQ n d) (shQ n d) p->∀ i,i<n->p i<=T i) (p:Nat->Rat) (hp:ClrQ n (cashQ cash) (totQ n d) (shQ n d) p) :
  ¬ UpB false (sumQ p n) (sumQ T n)/\(¬ UpB false (sumQ T n) (sumQ p n)->∀ i,i<n->p i=T i):=by
 refine⟨fun h=>?_,fun h=>?_⟩
 ·have h1:=up_great.1 h;have h2:=sumQ_le n (hT p hp);grind
 ·exact sumQ_le_eq n (hT p hp) (Rat.not_lt.1 (fun e=>h (up_great.2 e)))
theorem best_least {T:Nat->Rat} (hT:∀ p,ClrQ n (cashQ cash) (totQ n d) (shQ n d) p->∀ i,i<n->T i<=p i) (p:Nat->Rat) (hp:ClrQ n (cashQ cash) (totQ n d) (shQ n d) p) :
  ¬ UpB true (sumQ p n) (sumQ T n)/\(¬ UpB true (sumQ T n) (sumQ p n)->∀ i,i<n->p i=T i):=by
 refine⟨fun h=>?_,fun h i hi=>?_⟩
 ·have h1:=up_least.1 h;have h2:=sumQ_le n (hT p hp);grind
 ·exact (sumQ_le_eq n (hT p hp) (Rat.not_lt.1 (fun e=>h (up_least.2 e))) i hi).symm
theorem fix_great (hd:∀ i j,0<=d i j) {F F':Nat->Bool} (hF:∀ i,i<n->F' i=F i) {p:Nat->Rat} (hP:Pays n cash d F p) :
  (false=true\/∀ i,i<n->freB F' (rch (owes d) n) n i=false)/\(∀ i,i<n->sumQ (fun j=>sysQ n cash d F' (freB F' (rch (owes d) n) n) (-1) i j*p j) n=sysQ n cash d F' (freB F' (rch (owes d) n) n) (-1) i n)/\
   ∀ i,i<n->0<=p i/\p i<=totQ n d i/\(F' i=true->p i=hasP n (cashQ cash) (shQ n d) p i):=by
 have hnc:NoClosed n (shQ n d) (fun i=>F' i=true):=fun Z hZ hcl=>hP.rnd.nc Z (fun i hz=>by
  have h1:=(hZ i hz).1;have h2:F' i=true:=(hZ i hz).2;rw [hF i h1] at h2;exact⟨h1,h2⟩) hcl
 have hfr:=fun i hi=>fre_none hd hnc i hi
 have hsol:SolF n (cashQ cash) (totQ n d) (shQ n d) F' p:=⟨fun i hi h=>hP.sol.on i hi (by rw [<-hF i hi];exact h),fun i hi h=>hP.sol.no i hi (by rw [<-hF i hi];exact h)⟩;exact⟨.inr hfr,fun i hi=>sys_pays hfr hsol i hi,fun i hi=>⟨hP.clr.pos i hi,hP.clr.tot i hi,fun h=>hsol.on i hi h⟩⟩
theorem fix_least (hR:Rng n cash d) (hd:∀ i j,0<=d i j) {L:Nat->Rat} (hL:ClrQ n (cashQ cash) (totQ n d) (shQ n d) L) (hmin:∀ p,ClrQ n (cashQ cash) (totQ n d) (shQ n d) p->∀ i,i<n->L i<=p i) {F':Nat->Bool} (hF:∀ i,i<n->(F' i=true↔L i≠totQ n d i)) :
  (true=true\/∀ i,i<n->freB F' (rch (owes d) n) n i=false)/\(∀ i,i<n->sumQ (fun j=>sysQ n cash d F' (freB F' (rch (owes d) n) n) (-1) i j*L j) n=sysQ n cash d F' (freB F' (rch (owes d) n) n) (-1) i n)/\
   ∀ i,i<n->0<=L i/\L i<=totQ n d i/\(F' i=true->L i=hasP n (cashQ cash) (shQ n d) L i):=by
 have h1:∀ i,i<n->F' i=true->L i=hasP n (cashQ cash) (shQ n d) L i:=fun i hi h=>(hL.eq i hi).resolve_left ((hF i hi).1 h)
 refine⟨.inl rfl,fun i hi=>sys_least hR hd hL hmin (fun i hi=>⟨h1 i hi,fun h=>?_⟩) i hi,fun i hi=>⟨hL.pos i hi,hL.tot i hi,h1 i hi⟩⟩;refine Classical.byContradiction (fun q=>?_);have:=(hF i hi).2 q;rw [h] at this;cases this
theorem set_ex (P:Nat->Prop) (n:Nat):∃ s,s<2 ^ n/\∀ i,i<n->(s.testBit i=true↔P i):=by
 have h:∀ i,∃ b:Bool,b=true↔P i:=fun i=>bool_ex (P i)
 obtain⟨s,hs,he⟩:=code_ex (fun i=>Classical.choose (h i)) n;exact⟨s,hs,fun i hi=>by rw [he i hi];exact Classical.choose_spec (h i)⟩
end
end Go.Proofs.YtgmopcncbpdniaaGreat
