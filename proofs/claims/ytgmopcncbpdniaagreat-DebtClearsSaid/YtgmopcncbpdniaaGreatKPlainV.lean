import Derived.Test.YtgmopcncbpdniaaGreatKShelf
import Derived.Test.YtgmopcncbpdniaaGreatKFloat3
import Derived.Test.YtgmopcncbpdniaaGreatKReach2
import Derived.Test.YtgmopcncbpdniaaGreatKGrp2
import Derived.Deep.DeepCutAuto
import Derived.Deep.CutBlock
import Derived.Test.YtgmopcncbpdniaaGreatKMny
import Derived.Test.YtgmopcncbpdniaaGreatKPlainN
set_option linter.unusedVariables false
set_option linter.unusedSimpArgs false
namespace Go.Proofs.YtgmopcncbpdniaaGreat
open Go.RowKit
attribute [local go_sem ↓] Go.wp_at_zero Go.wp_at_succ
theorem cmpQ_gt (a b:Rat):decide (0<cmpQ a b)=decide (b<a):=by
 have h:(0<cmpQ a b)↔b<a:=by
  have h1:0<cmpQ a b↔0<a.num*(b.den:Int) - b.num*(a.den:Int):=by
   unfold cmpQ sgnZ;split
   ·omega
   ·split <;> omega
  rw [h1,Rat.lt_iff];omega
 exact decide_eq_decide.2 h
theorem cmpQ_ne (a b:Rat):(cmpQ a b != 0)=decide (a≠b):=by
 have h:cmpQ a b=0↔a=b:=by
  have h0:=cmpQ_lt a b;have h1:=cmpQ_gt a b;rw [decide_eq_decide] at h0 h1;constructor
  ·intro e;rw [e] at h0 h1;have h2:¬ a<b:=fun q=>by have:=h0.2 q;omega
   have h3:¬ b<a:=fun q=>by have:=h1.2 q;omega
   grind
  ·intro e;subst e;have h2:¬ cmpQ a a<0:=fun q=>Rat.lt_irrefl (h0.1 q)
   have h3:¬ 0<cmpQ a a:=fun q=>Rat.lt_irrefl (h1.1 q)
   omega
 by_cases e:a=b
 ·rw [h.2 e];simp [e]
 ·have:cmpQ a b≠0:=fun q=>e (h.1 q)
  simp [e,this]
theorem sgnQ_neg (a:Rat):decide (sgnZ a.num<0)=decide (a<0):=by
 have h:sgnZ a.num<0↔a<0:=by
  have h1:sgnZ a.num<0↔a.num<0:=by unfold sgnZ;split;omega;split <;> omega
  rw [h1,Rat.lt_iff];simp
 exact decide_eq_decide.2 h
def wantQ (n:Nat) (cash:Nat->Int) (d:Nat->Nat->Int) (q:Nat->Rat) (i:Nat):Rat:=if totQ n d i<hasP n (cashQ cash) (shQ n d) q i then totQ n d i else hasP n (cashQ cash) (shQ n d) q i
def GdQ (n:Nat) (cash:Nat->Int) (d:Nat->Nat->Int) (q:Nat->Rat) (i:Nat):Prop:=0<=q i/\q i=wantQ n cash d q i
set_option maxHeartbeats 8000000 in
set_option maxRecDepth 100000 in
theorem mclr_any (b n pc P:Nat) (cash:Nat->Int) (d:Nat->Nat->Int) (vc vd vt:Value) (q:Nat->Rat) (K:Nat) (r:Bool) (hr:r=true↔∀ i,i<n->GdQ n cash d q i) (w:World) (hm:IsMkt w b n cash d vc vd vt) (hn:n<=8) (hR:Rng n cash d) (hp:IsRats w P 0 n q K) (hK4:4<=K) (hK:K<=100000000) :
  Calls Tryz.prog 67 #[.pointer (some ⟨b,0,none⟩),.slice (some ⟨P,0,none⟩) n pc] w fun e w'=>e = .returned (.bool r)/\Below w.heap.size w w':=by
 have HM:=jj hm;have HR:=jj hR;have HP:=jj hp;have HRR:=jj hr;obtain⟨c0,-,-,c3,-,-,⟨ta,tb,t_o,tc,rfl,hts⟩,hlt⟩:=hm;have HTS:=jj hts;have HC3:=jj (And.intro c3 hlt);have KW0:=jj (jr w);clear hR hp hr c0 c3 hts;go_enter Tryz.func67,Tryz.ntmps67;go_wp2;go_loopw [7,11] (fun v7 v11 wr=>∃ k:Nat,k<=n/\v11 = .int .i64 (k:Nat)/\Hid (∀ z,v7 = .pointer (some ⟨z,0,none⟩)->z<wr.heap.size)/\Hid (∀ i,i<k->GdQ n cash d q i)/\Hid (Below w.heap.size w wr)) (fun _ v11 _=>n - (intOf v11).toNat)
 case atStart=>exact⟨0,by omega,rfl,jj (fun z e=>by simp [undef] at e),jj (fun i hi=>by omega),KW0⟩
 case round=>
  clear KW0;obtain⟨k,hk,rfl,HV0,HG,KW⟩:=hrel;by_cases h:k<n
  ·have e1:decide ((k:Int)<(n:Int))=true:=by simpa using h
   have e1n:decide (k<n)=true:=by simpa using h
   have ixp:=fun W=>rowIx P n pc k h W
   obtain⟨sx,ax,nx,cx,ax2,nx2,cx2,PX0,KX0⟩:=HP.out k h;rw [Nat.zero_add] at PX0;have KX:=jj (KX0.mono KW.out jl);obtain⟨p0,p1,p2,p3,-⟩:=PX0.below KW.out PX0.lt;have HX0:=jj (own4_new wr wr.heap.size rfl (.bool sx) (.slice ax nx cx) (.bool false) (.slice ax2 nx2 cx2) 92);have KB:=jj (boxes1 wr (.cells #[.bool sx,.slice ax nx cx,.bool false,.slice ax2 nx2 cx2] 92));obtain⟨Ti,hTi⟩:∃ Ti,Ti=sumF (d k) n:=⟨_,rfl⟩;have HTi:=jj hTi;have HT:Hid (-4611686018427387904<Ti/\Ti<4611686018427387904):=jj (by have:=HR.out.tot k h;omega);have HCS:Hid (0<=cash k/\cash k<=100000):=jj (by have:=HR.out.csh k h;omega);have HDS:Hid (∀ j,j<n->0<=d j k/\d j k<=1000/\0<=sumF (d j) n/\sumF (d j) n<=100000):=jj (fun j hj=>⟨(HR.out.deb j k hj h).1,(HR.out.deb j k hj h).2,(HR.out.tot j hj).1,(HR.out.tot j hj).2⟩);have ixt:=fun W=>ixI HTS.out k tc h W
   clear PX0 KX0;go_wp2;have KW1:=jj (jb KW.out KB.out);have KX:=jj (KX.out.mono KB.out jl);have HV7:=jj (fun z e=>jm (HV0.out z e) KB.out.size);obtain⟨xb,hxb⟩:∃ xb,xb=wr.heap.size:=⟨_,rfl⟩;have HXB:Hid (w.heap.size<=xb):=jj (by rw [hxb];exact KW.out.size);rw [<-hxb] at HX0 ⊢;clear p0 p1 p2 p3 hxb KB;generalize wr.alloc (.cells #[.bool sx,.slice ax nx cx,.bool false,.slice ax2 nx2 cx2] 92)=wb at *
   have HMb:=jj (HM.out.mono KW1.out jl);have HPb:=jj (HP.out.mono KW1.out jl);have yt:w.cell? ⟨tb,t_o+k,none⟩=some (.int .i64 Ti):=by have:=HTS.out.cell k h;simp only [ic] at this;rw [hTi];exact this
   have HYT:=jj (And.intro yt (HTS.out.lt (by omega)));clear yt hTi
   have keepR:Hid (∀ w',Below wb.heap.size wb w'->w'.cell? ⟨b,3,none⟩=some (.slice ta n tc)/\w'.cell? ⟨tb,t_o+k,none⟩=some (.int .i64 Ti)):=
    jj (fun w' hb=>⟨bel1 (jb KW1.out hb) HC3.out.1 HC3.out.2,bel1 (jb KW1.out hb) HYT.out.1 HYT.out.2⟩)
   have VL:=jj (jr wb).drew;have HST:StaysB (fun w'=>w'.cell? ⟨b,3,none⟩=some (.slice ta n tc)/\w'.cell? ⟨tb,t_o+k,none⟩=some (.int .i64 Ti)):=fun w1 w2 h hb=>⟨cell_stays h.1 hb,cell_stays h.2 hb⟩
   refine wp_region_box2 HST (d:=7) (d2:=8) (zs:=#[.bool false,.slice none 0 0,.bool false,.slice none 0 0]) (t:=92) (by kernel_rfl) (by kernel_rfl) rfl rfl (fun a w=>by kernel_rfl) (fun a w=>by kernel_rfl) (by kernel_rfl) (fun _ _ _ _ _ h=>h) (keepR.out _ VL.out) (fun z e=>HV7.out z (by simpa using e)) (fun hHeld=>?_);simp only [List.pop_toArray,List.dropLast_cons_cons,List.dropLast_singleton];refine wte_begin [0,1,2,4,5,6,7,8,9,10] ?_
   iterate 10 (refine wte (v:=?_) HST rfl (by kernel_rfl) (fun _ _ _ h=>h) (by kernel_rfl) ?_ hHeld ?_;rotate_left;(focus intro w0 hSw;(try dsimp only at hSw);go_simp;all_goals (with_reducible rfl));simp only [Act.put,js,jz,jc])
   refine wte_end ?_;refine wpAnyE_ready (rs:=[3]) (by kernel_rfl) (by simp) (fun we hext=>?_);have VL:=jj (bl_trans VL.out hext);have hHeld:=HST _ _ hHeld hext;refine AllReadyE.cons rfl (fun Kn hKn=>?_) AllReadyE.nil;go_simp
   (go_at_call 51;(with_reducible refine (has_any b n k cash d _ _ _ _ (HMb.out.mono VL.out jl) h hn HDS.out HCS.out P 0 pc q K (HPb.out.mono VL.out jl) hK4 (by omega)).mono ?_);rintro e w5 ⟨r5,rfl,hr5,hbc⟩;obtain⟨s5,a5,n5,c5,b5,l5,k5,rfl,QK5⟩:=hr5.shape;clear hr5)
   have VL:=jj (bl_trans VL.out hbc);go_wp2_with fail;refine hKn.out _ _ ?_ ?_ (fun hHeld=>?_)
   ·(try dsimp only);exact keepR.out _ VL.out
   ·exact hbc
   clear hKn Kn hext hbc
   (try simp only [Act.put,js,jz,jc])
   refine wpAnyE_ready (rs:=[11]) (by kernel_rfl) (by simp) (fun we hext=>?_);have VL:=jj (bl_trans VL.out hext);have hHeld:=HST _ _ hHeld hext;have QK5:=jj (QK5.out.mono hext jl);refine AllReadyE.cons rfl (fun Kn hKn=>?_) AllReadyE.nil;go_simp
   (go_at_call 59;(with_reducible refine (rat_whole Ti HT.out.1 HT.out.2 _).mono ?_);rintro e w7 ⟨r7,rfl,hr7,hbc⟩;obtain⟨s7,a7,n7,c7,b7,l7,k7,rfl,QK7⟩:=hr7.shape;clear hr7)
   have QK5:=jj (QK5.out.mono hbc jl);have VL:=jj (bl_trans VL.out hbc);go_wp2_with fail;refine hKn.out _ _ ?_ ?_ (fun hHeld=>?_)
   ·(try dsimp only);exact keepR.out _ VL.out
   ·exact hbc
   clear hKn Kn hext hbc
   (try simp only [Act.put,js,jz,jc])
   refine wpAnyE_done (by kernel_rfl) (fun we hext=>?_) _;intro x wx hbx hx0 hxz y wy hby hy0 hyz hne;have hxy:=hne x (by rfl);have hyx:=Ne.symm hxy;have VL:=jj (bl_trans (bl_trans (bl_trans VL.out hext) hbx) hby);have QK5:=jj (((QK5.out.mono hext jl).mono hbx jl).mono hby jl);have QK7:=jj (((QK7.out.mono hext jl).mono hbx jl).mono hby jl);have OX:=jj ((own4_block hxz).below hby (own4_block hxz).lt);have OY:=jj (own4_block hyz);obtain⟨x0,x1,x2,x3,xf,xl⟩:=OX.out;obtain⟨z0,z1,z2,z3,zf,zl⟩:=OY.out;clear hne hext hbx hby hxz hyz ixp ixt;simp only [Act.put,js,jz,jc];refine lastQ_step rfl (fun Kn hKn=>?_);go_simp;refine hKn.out _ _ ?_;clear hKn Kn
   (try simp only [Act.put,js,jz,jc])
   refine lastQ_step rfl (fun Kn hKn=>?_);go_simp;refine hKn.out _ _ ?_;clear hKn Kn
   (try simp only [Act.put,js,jz,jc])
   have OY1:=OY.out.set4 x (.bool s5) (.slice a5 n5 c5) (.bool false) (.slice b5 l5 k5) hxy;have hxw:=HX0.out.lt;have OX8:=jj ((OX.out.anew (.bool s5) (.slice a5 n5 c5) (.bool false) (.slice b5 l5 k5)).set4 y (.bool s7) (.slice a7 n7 c7) (.bool false) (.slice b7 l7 k7) hyx);have OY8:=jj (OY1.anew (.bool s7) (.slice a7 n7 c7) (.bool false) (.slice b7 l7 k7));have Q5:=jj ((QK5.out.into' (.bool s5) (.slice a5 n5 c5) (.bool false) (.slice b5 l5 k5) OX.out).into' (.bool s7) (.slice a7 n7 c7) (.bool false) (.slice b7 l7 k7) OY1);have Q7:=jj ((QK7.out.into' (.bool s5) (.slice a5 n5 c5) (.bool false) (.slice b5 l5 k5) OX.out).into' (.bool s7) (.slice a7 n7 c7) (.bool false) (.slice b7 l7 k7) OY1);have HV8:=jj (((HX0.out.below VL.out HX0.out.lt).set4 x (.bool s5) (.slice a5 n5 c5) (.bool false) (.slice b5 l5 k5) (by omega)).set4 y (.bool s7) (.slice a7 n7 c7) (.bool false) (.slice b7 l7 k7) (by omega));have KX8:=jj (((KX.out.mono VL.out jl).into' (.bool s5) (.slice a5 n5 c5) (.bool false) (.slice b5 l5 k5) OX.out).into' (.bool s7) (.slice a7 n7 c7) (.bool false) (.slice b7 l7 k7) OY1);have KW8:=jj (below_set4q (below_set4q (jb KW1.out VL.out) (b:=x) (by have:=KW1.out.size;omega) (.bool s5) (.slice a5 n5 c5) (.bool false) (.slice b5 l5 k5)) (b:=y) (by have:=KW1.out.size;omega) (.bool s7) (.slice a7 n7 c7) (.bool false) (.slice b7 l7 k7));have HXX:Hid (xb≠x/\xb≠y/\w.heap.size<=x):=jj ⟨by omega,by omega,by have:=KW1.out.size;omega⟩;clear OY1 QK5 QK7 OX OY x0 x1 x2 x3 xf xl z0 z1 z2 z3 zf zl hHeld HST VL HMb HPb keepR HX0 KX KW1 hxw;generalize ((((((((wy.setCell ⟨x,0,none⟩ (.bool s5)).setCell ⟨x,1,none⟩ (.slice a5 n5 c5)).setCell ⟨x,2,none⟩ (.bool false)).setCell ⟨x,3,none⟩ (.slice b5 l5 k5)).setCell ⟨y,0,none⟩ (.bool s7)).setCell ⟨y,1,none⟩ (.slice a7 n7 c7)).setCell ⟨y,2,none⟩ (.bool false)).setCell ⟨y,3,none⟩ (.slice b7 l7 k7))=w8 at *
   have HH:Hid (hasQ n cash d q k=hasP n (cashQ cash) (shQ n d) q k):=jj (hasQ_eq ..);have HT2:Hid (((Ti:Int):Rat)=totQ n d k):=jj (by rw [HTi.out];rfl);rw [HH.out] at Q5;rw [HT2.out] at Q7;obtain⟨x0,x1,x2,x3,xf,xl⟩:=OX8.out;obtain⟨z0,z1,z2,z3,zf,zl⟩:=OY8.out
   go_upto_if 31 with (first | (go_at_call 62;(with_reducible refine (rat_cmp_val _ _ (hasP n (cashQ cash) (shQ n d) q k) (totQ n d k) (512*(K+1)) _ _ Q5.out (Q7.out.le (by omega)) (by omega) rfl).mono ?_);rintro e w9 ⟨rfl,hb9⟩))
   have OX8:=jj (OX8.out.below hb9 OX8.out.lt);have OY8:=jj (OY8.out.below hb9 OY8.out.lt);have HV8:=jj (HV8.out.below hb9 HV8.out.lt);have Q5:=jj (Q5.out.mono hb9 jl);have Q7:=jj (Q7.out.mono hb9 jl);have KX8:=jj (KX8.out.mono hb9 jl);have KW8:=jj (jb KW8.out hb9);clear x0 x1 x2 x3 xf xl z0 z1 z2 z3 zf zl hb9
   go_cut [] (fun wx=>∃ s9 a9 n9 c9 b9 l9 k9,Hid (Own4 wx x (.bool s9) (.slice a9 n9 c9) (.bool false) (.slice b9 l9 k9))/\Hid (RatIs wx (.agg #[.bool s9,.slice a9 n9 c9,.bool false,.slice b9 l9 k9]) (wantQ n cash d q k) (512*(K+1)))/\Hid (Own4 wx xb (.bool sx) (.slice ax nx cx) (.bool false) (.slice ax2 nx2 cx2))/\Hid (RatIs wx (.agg #[.bool sx,.slice ax nx cx,.bool false,.slice ax2 nx2 cx2]) (q k) K)/\Hid (Below w.heap.size w wx))
   case first=>
    obtain⟨x0,x1,x2,x3,xf,xl⟩:=OX8.out;obtain⟨z0,z1,z2,z3,zf,zl⟩:=OY8.out;by_cases hgt:totQ n d k<hasP n (cashQ cash) (shQ n d) q k
    ·have e2:decide (0<cmpQ (hasP n (cashQ cash) (shQ n d) q k) (totQ n d k))=true:=by rw [cmpQ_gt];simpa using hgt
     have e2p:0<cmpQ (hasP n (cashQ cash) (shQ n d) q k) (totQ n d k):=by simpa using e2
     have HW:Hid (wantQ n cash d q k=totQ n d k):=jj (by unfold wantQ;rw [if_pos hgt]);clear hgt;go_wp2_with fail;go_meet
     case rel=>exact⟨s7,a7,n7,c7,b7,l7,k7,jj (OX8.out.anew (.bool s7) (.slice a7 n7 c7) (.bool false) (.slice b7 l7 k7)),jj (by rw [HW.out];exact (Q7.out.le (by omega)).into' (.bool s7) (.slice a7 n7 c7) (.bool false) (.slice b7 l7 k7) OX8.out),jj (HV8.out.set4 x (.bool s7) (.slice a7 n7 c7) (.bool false) (.slice b7 l7 k7) (Ne.symm HXX.out.1)),jj (KX8.out.into' (.bool s7) (.slice a7 n7 c7) (.bool false) (.slice b7 l7 k7) OX8.out),jj (below_set4q KW8.out HXX.out.2.2 (.bool s7) (.slice a7 n7 c7) (.bool false) (.slice b7 l7 k7))⟩
    ·have e2:decide (0<cmpQ (hasP n (cashQ cash) (shQ n d) q k) (totQ n d k))=false:=by rw [cmpQ_gt];simpa using hgt
     have e2p:cmpQ (hasP n (cashQ cash) (shQ n d) q k) (totQ n d k)<=0:=by simpa using e2
     have HW:Hid (wantQ n cash d q k=hasP n (cashQ cash) (shQ n d) q k):=jj (by unfold wantQ;rw [if_neg hgt]);clear hgt;go_wp2_with fail;go_meet
     case rel=>exact⟨s5,a5,n5,c5,b5,l5,k5,OX8,jj (by rw [HW.out];exact Q5.out),HV8,KX8,KW8⟩
   case rest=>
    clear OX8 OY8 HV8 KX8 KW8 Q5 Q7;obtain⟨s9,a9,n9,c9,b9,l9,k9,OX,QW,OV,KX,KW⟩:=hcut;obtain⟨x0,x1,x2,x3,xf,xl⟩:=OX.out;obtain⟨z0,z1,z2,z3,zf,zl⟩:=OV.out;by_cases hneg:q k<0
    ·have e2:decide (sgnZ (q k).num<0)=true:=by rw [sgnQ_neg];simpa using hneg
     obtain rfl:r=false:=bool_false HRR.out (fun g=>absurd hneg (Rat.not_lt.2 (g k h).1));clear hneg;go_wp2_with (first | (go_at_call 109;(with_reducible refine (rat_sign _ (q k) K _ KX.out).mono ?_);rintro e w9 ⟨rfl,hb9⟩));go_ret;exact⟨rfl,jb KW.out hb9⟩
    ·have e2:decide (sgnZ (q k).num<0)=false:=by rw [sgnQ_neg];simpa using hneg
     have HN:=jj hneg;clear hneg;by_cases heq:q k=wantQ n cash d q k
     ·have e3:(cmpQ (q k) (wantQ n cash d q k) != 0)=false:=by rw [cmpQ_ne];simpa using heq
      have HE:=jj heq;clear heq
      go_wp2_with (first
       | (go_at_call 109;(with_reducible refine (rat_sign _ (q k) K _ KX.out).mono ?_);rintro e w9 ⟨rfl,hb9⟩;have OX:=jj (OX.out.below hb9 OX.out.lt);have OV:=jj (OV.out.below hb9 OV.out.lt);have QW:=jj (QW.out.mono hb9 jl);have KX:=jj (KX.out.mono hb9 jl);have KW:=jj (jb KW.out hb9);clear x0 x1 x2 x3 xf xl z0 z1 z2 z3 zf zl hb9;obtain⟨x0,x1,x2,x3,xf,xl⟩:=OX.out;obtain⟨z0,z1,z2,z3,zf,zl⟩:=OV.out)
       | (go_at_call 62;(with_reducible refine (rat_cmp_val _ _ (q k) (wantQ n cash d q k) (512*(K+1)) _ _ (KX.out.le (by omega)) QW.out (by omega) rfl).mono ?_);rintro e w10 ⟨rfl,hb10⟩;have HXL:=jj (OX.out.below hb10 OX.out.lt).lt;have KW:=jj (jb KW.out hb10);clear hb10))
      go_roundw
      case rel=>exact⟨k+1,by omega,by go_num,jj (fun z e=>by injection e with e;injection e with e;injection e with e;subst e;exact HXL.out),jj (ext_lt HG.out ⟨Rat.not_lt.1 HN.out,HE.out⟩),KW⟩
      case measure=>simp [intOf];omega
     ·have e3:(cmpQ (q k) (wantQ n cash d q k) != 0)=true:=by rw [cmpQ_ne];simpa using heq
      obtain rfl:r=false:=bool_false HRR.out (fun g=>heq (g k h).2);clear heq
      go_wp2_with (first
       | (go_at_call 109;(with_reducible refine (rat_sign _ (q k) K _ KX.out).mono ?_);rintro e w9 ⟨rfl,hb9⟩;have OX:=jj (OX.out.below hb9 OX.out.lt);have OV:=jj (OV.out.below hb9 OV.out.lt);have QW:=jj (QW.out.mono hb9 jl);have KX:=jj (KX.out.mono hb9 jl);have KW:=jj (jb KW.out hb9);clear x0 x1 x2 x3 xf xl z0 z1 z2 z3 zf zl hb9;obtain⟨x0,x1,x2,x3,xf,xl⟩:=OX.out;obtain⟨z0,z1,z2,z3,zf,zl⟩:=OV.out)
       | (go_at_call 62;(with_reducible refine (rat_cmp_val _ _ (q k) (wantQ n cash d q k) (512*(K+1)) _ _ (KX.out.le (by omega)) QW.out (by omega) rfl).mono ?_);rintro e w10 ⟨rfl,hb10⟩;have HXL:=jj (OX.out.below hb10 OX.out.lt).lt;have KW:=jj (jb KW.out hb10);clear hb10))
      go_ret;exact⟨rfl,KW.out⟩
  ·obtain rfl:n=k:=by omega
   have e1:decide ((n:Int)<(n:Int))=false:=by simp
   obtain rfl:r=true:=HRR.out.2 HG.out;go_wp2;go_ret;exact⟨rfl,KW.out⟩
end Go.Proofs.YtgmopcncbpdniaaGreat
namespace Go.Proofs.YtgmopcncbpdniaaGreat
section
variable {n:Nat} {cash:Nat->Int} {d:Nat->Nat->Int} {A P M L L0:Nat->Bool} {b:Bool} {i j:Nat}
theorem tot_zero {j:Nat} (h:totQ n d j=0):sumF (d j) n=0:=by
 unfold totQ at h;have h2:((sumF (d j) n:Int):Rat)=((0:Int):Rat):=h;exact Rat.intCast_inj.1 h2
theorem mktS_of (hR:Rng n cash d) (hd:∀ i j,0<=d i j):MktS n (cashQ cash) (totQ n d) (shQ n d):=
 ⟨mktQ_of hR hd,fun j hj h=>shQ_sum hd j (fun e=>by unfold totQ at h;rw [e] at h;exact absurd h (by decide)),fun j hj h i=>by
  have:=tot_zero h;unfold shQ shareQ;rw [if_pos this]⟩
theorem sh_iff (hd:∀ i j,0<=d i j) (j i:Nat) (hi:i<n):0<shQ n d j i↔0<d j i:=by
 constructor
 ·intro h;refine Classical.byContradiction (fun q=>?_);have h2:=hd j i;rw [shQ_none (by omega)] at h;exact absurd h Rat.lt_irrefl
 ·intro h;have h1:=sumF_mem (hd j) n i hi;rw [shQ_div (by omega),Rat.div_def];exact Rat.mul_pos (Rat.intCast_pos.2 h) (inv_pos' (Rat.intCast_pos.2 (by omega)))
theorem mon_iff (hd:∀ i j,0<=d i j) (k:Nat):MonI n cash d A k↔Mon n (cashQ cash) (shQ n d) A k:=by
 have hc:∀ i,0<cashQ cash i↔0<cash i:=fun i=>Rat.intCast_pos
 constructor
 ·intro h M h1 h2;exact h M (fun i hi q=>h1 i hi ((hc i).2 q)) (fun i j hi hj q r=>h2 i j hi hj q ((sh_iff hd i j hj).2 r))
 ·intro h M h1 h2;exact h M (fun i hi q=>h1 i hi ((hc i).1 q)) (fun i j hi hj q r=>h2 i j hi hj q ((sh_iff hd i j hj).1 r))
theorem gd_iff {q:Nat->Rat} (hR:Rng n cash d) (hd:∀ i j,0<=d i j):(∀ i,i<n->GdQ n cash d q i)↔ClrQ n (cashQ cash) (totQ n d) (shQ n d) q:=by
 constructor
 ·intro h;refine⟨fun i hi=>(h i hi).1,fun i hi=>?_,fun i hi=>?_,fun i hi=>?_⟩
  ·have:=(h i hi).2;unfold wantQ at this;split at this <;> grind
  ·have:=(h i hi).2;unfold wantQ at this;split at this <;> grind
  ·have:=(h i hi).2;unfold wantQ at this;split at this
   ·exact .inl this
   ·exact .inr this
 ·intro h i hi;refine⟨h.pos i hi,?_⟩;unfold wantQ;have h1:=h.tot i hi;have h2:=h.has i hi;rcases h.eq i hi with e | e
  ·split <;> grind
  ·split <;> grind
structure LsF (n:Nat) (cash:Nat->Int) (d:Nat->Nat->Int) (A:Nat->Bool) (x:Nat->Rat):Prop where
 nc:NoClosed n (shQ n d) (fun i=>A i=false/\Mon n (cashQ cash) (shQ n d) A i)
 face:Face n (cashQ cash) (totQ n d) (shQ n d) A x
 clr:ClrQ n (cashQ cash) (totQ n d) (shQ n d) x
structure LRel (n:Nat) (d:Nat->Nat->Int) (P A L0 L:Nat->Bool) (b:Bool) (i j:Nat):Prop where
 base:∀ k,k<n->A k=true->L k=true
 snd:∀ Z:Nat->Prop,(∀ k,Z k->k<n/\A k=false)->(∀ k,Z k->∀ l,l<n->0<d k l->Z l)->∀ k,Z k->L k=false
 yes:b=true->rankF L0 n<rankF L n
 no:b=false->L=L0/\∀ a c,a<n->c<n->(a<i\/(a=i/\c<j))->P a=true->L a=false->0<d a c->L c=false
structure LSt (n:Nat) (d:Nat->Nat->Int) (P A L:Nat->Bool) (b:Bool):Prop where
 base:∀ k,k<n->A k=true->L k=true
 snd:∀ Z:Nat->Prop,(∀ k,Z k->k<n/\A k=false)->(∀ k,Z k->∀ l,l<n->0<d k l->Z l)->∀ k,Z k->L k=false
 fin:b=false->∀ a c,a<n->c<n->P a=true->L a=false->0<d a c->L c=false
theorem LSt.start (h:∀ k,k<n->L k=A k):LSt n d P A L true:=⟨fun k hk hA=>by rw [h k hk];exact hA,fun Z hZ _ k hk=>by rw [h k (hZ k hk).1];exact (hZ k hk).2,fun e=>nomatch e⟩
theorem LSt.rel (h:LSt n d P A L b):LRel n d P A L L false 0 0:=⟨h.base,h.snd,(fun e=>nomatch e),fun _=>⟨rfl,fun a c _ _ h=>by omega⟩⟩
theorem LRel.row (h:LRel n d P A L0 L b i n):LRel n d P A L0 L b (i+1) 0:=⟨h.base,h.snd,h.yes,fun e=>⟨(h.no e).1,fun a c ha hc q=>(h.no e).2 a c ha hc (by omega)⟩⟩
theorem LRel.skip (h:LRel n d P A L0 L b i j) (hn:¬ (P i=true/\L i=false/\0<d i j/\L j=true)):LRel n d P A L0 L b i (j+1):=
 ⟨h.base,h.snd,h.yes,fun e=>⟨(h.no e).1,fun a c ha hc q hP hL hd=>by
  by_cases g:a=i/\c=j
  ·obtain⟨rfl,rfl⟩:=g;cases hM:L c
   ·rfl
   ·exact absurd ⟨hP,hL,hd,hM⟩ hn
  ·exact (h.no e).2 a c ha hc (by omega) hP hL hd⟩⟩
theorem LRel.set (h:LRel n d P A L0 L b i j) (hi:i<n) (hj:j<n) (h1:0<d i j) (h2:L i=false) (h3:L j=true):LRel n d P A L0 (fun k=>if k=i then true else L k) true i (j+1):=
 ⟨fun k hk hA=>by
  by_cases e:k=i
  ·rw [if_pos e]
  ·rw [if_neg e];exact h.base k hk hA,fun Z hZ hcl k hk=>by
  by_cases e:k=i
  ·subst e;have:=h.snd Z hZ hcl j (hcl k hk j hj h1);rw [h3] at this;cases this
  ·rw [if_neg e];exact h.snd Z hZ hcl k hk,fun _=>by
  rw [rankF_upd h2 n hi];cases hb:b
  ·rw [(h.no hb).1];omega
  ·have:=h.yes hb;omega,fun e=>nomatch e⟩
theorem LRel.st (h:LRel n d P A L0 L b n 0):LSt n d P A L b:=⟨h.base,h.snd,fun e a c ha hc=>(h.no e).2 a c ha hc (by omega)⟩
theorem LRel.less {g:Nat} (h:LRel n d P A L0 L b n 0) (hg:2*(n - rankF L0 n)+1<=g):2*(n - rankF L n)+(if b then 1 else 0)<g:=by
 cases hb:b
 ·rw [(h.no hb).1];simp;omega
 ·have h1:=h.yes hb;have h2:=rankF_le L n;simp;omega
theorem ls_stuck (hd:∀ i j,0<=d i j) (hA0:∀ k,k<n->sumF (d k) n=0->A k=true) (hP:∀ k,k<n->(P k=true↔A k=false/\MonI n cash d A k)) (h:LSt n d P A L false) {i:Nat} (hi:i<n) (h1:P i=true) (h2:L i=false) (x:Nat->Rat):¬ LsF n cash d A x:=fun hx=>by
 refine hx.nc (fun k=>k<n/\P k=true/\L k=false) (fun k hk=>⟨hk.1,((hP k hk.1).1 hk.2.1).1,(mon_iff hd k).1 ((hP k hk.1).1 hk.2.1).2⟩) (fun j hj=>?_) i ⟨hi,h1,h2⟩;obtain⟨hj,hPj,hLj⟩:=hj;have hp:=(hP j hj).1 hPj;refine⟨shQ_sum hd j (fun e=>by have:=hA0 j hj e;rw [hp.1] at this;cases this),fun l hl hn=>?_⟩;refine shQ_none (Classical.byContradiction (fun q=>hn ?_));have hpos:0<d j l:=by have:=hd j l;omega
 have hLl:=h.fin rfl j l hj hl hPj hLj hpos;refine⟨hl,(hP l hl).2 ⟨?_,MonI.step hj hl (.inr hp.2) hpos⟩,hLl⟩;cases hA:A l
 ·rfl
 ·have:=h.base l hl hA;rw [hLl] at this;cases this
theorem ls_nc (hd:∀ i j,0<=d i j) (hP:∀ k,k<n->(P k=true↔A k=false/\MonI n cash d A k)) (h:LSt n d P A L false) (hall:∀ k,k<n->P k=true->L k=true):NoClosed n (shQ n d) (fun i=>P i=true):=fun Z hZ hcl k hk=>by
 have:=h.snd Z (fun k hk=>⟨(hZ k hk).1,((hP k (hZ k hk).1).1 (hZ k hk).2).1⟩) (fun k hk l hl hp=>Classical.byContradiction (fun q=>by
  have h1:=(hcl k hk).2 l hl q;have h2:=(sh_iff hd k l hl).2 hp;rw [h1] at h2;exact absurd h2 Rat.lt_irrefl)) k hk
 rw [hall k (hZ k hk).1 (hZ k hk).2] at this;cases this
theorem ls_face (hd:∀ i j,0<=d i j) (hP:∀ k,k<n->(P k=true↔A k=false/\MonI n cash d A k)) {N:Nat->Bool} (hN:∀ k,k<n->(N k=true↔A k=false/\¬ MonI n cash d A k)) {x:Nat->Rat} (hx:SolF n (cashQ cash) (totG N n d) (shQ n d) P x) :
  Face n (cashQ cash) (totQ n d) (shQ n d) A x:=by
 refine⟨fun i hi hA=>?_,fun i hi hA hM=>hx.on i hi ((hP i hi).2 ⟨hA,(mon_iff hd i).2 hM⟩),fun i hi hA hM=>?_⟩
 ·have h1:P i=false:=by
   cases e:P i
   ·rfl
   ·have:=((hP i hi).1 e).1;rw [hA] at this;cases this
  have h2:N i=false:=by
   cases e:N i
   ·rfl
   ·have:=((hN i hi).1 e).1;rw [hA] at this;cases this
  rw [hx.no i hi h1,totG_le,h2];rfl
 ·have h1:P i=false:=by
   cases e:P i
   ·rfl
   ·exact absurd ((mon_iff hd i).1 ((hP i hi).1 e).2) hM
  have h2:N i=true:=(hN i hi).2 ⟨hA,fun q=>hM ((mon_iff hd i).1 q)⟩;rw [hx.no i hi h1,totG_le,h2];rfl
theorem nc_iff (hd:∀ i j,0<=d i j) (hP:∀ k,k<n->(P k=true↔A k=false/\MonI n cash d A k)) (h:NoClosed n (shQ n d) (fun i=>P i=true)):NoClosed n (shQ n d) (fun i=>A i=false/\Mon n (cashQ cash) (shQ n d) A i):=
 fun Z hZ hcl=>h Z (fun k hk=>⟨(hZ k hk).1,(hP k (hZ k hk).1).2 ⟨(hZ k hk).2.1,(mon_iff hd k).2 (hZ k hk).2.2⟩⟩) hcl
theorem face_uniq {x y:Nat->Rat} (hR:Rng n cash d) (hd:∀ i j,0<=d i j) (hF:NoClosed n (shQ n d) (fun i=>A i=false/\Mon n (cashQ cash) (shQ n d) A i)) (hx:Face n (cashQ cash) (totQ n d) (shQ n d) A x) (hy:Face n (cashQ cash) (totQ n d) (shQ n d) A y):∀ i,i<n->x i=y i:=by
 have hm:=mktQ_of hR hd
 have key:∀ {x y:Nat->Rat},Face n (cashQ cash) (totQ n d) (shQ n d) A x->Face n (cashQ cash) (totQ n d) (shQ n d) A y->∀ i,i<n->x i<=y i:=fun {x y} hx hy=>
  face_le hm hF hx ⟨face_nonneg hm hF hy,fun i hi hA=>by rw [hy.on i hi hA];exact Rat.le_refl,fun i hi hA=>by
   by_cases hM:Mon n (cashQ cash) (shQ n d) A i
   ·rw [<-hy.part i hi hA hM];exact Rat.le_refl
   ·rw [hy.none i hi hA hM,face_none (mktS_of hR hd) hy hi hM];exact Rat.le_refl⟩
 intro i hi;have h1:=key hx hy i hi;have h2:=key hy hx i hi;grind
theorem ClrQ.congr {c T:Nat->Rat} {S:Nat->Nat->Rat} {x y:Nat->Rat} (h:ClrQ n c T S x) (e:∀ i,i<n->x i=y i):ClrQ n c T S y:=by
 have h2:∀ i,hasP n c S x i=hasP n c S y i:=fun i=>hasP_congr e i
 exact⟨fun i hi=>by rw [<-e i hi];exact h.pos i hi,fun i hi=>by rw [<-e i hi];exact h.tot i hi,fun i hi=>by rw [<-e i hi,<-h2];exact h.has i hi,fun i hi=>by rw [<-e i hi,<-h2];exact h.eq i hi⟩
end
end Go.Proofs.YtgmopcncbpdniaaGreat
