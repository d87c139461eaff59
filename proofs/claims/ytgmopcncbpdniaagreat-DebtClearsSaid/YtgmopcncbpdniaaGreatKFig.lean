import Derived.Test.YtgmopcncbpdniaaGreatKShelf
import Derived.Test.YtgmopcncbpdniaaGreatKPlainFx
import Derived.Test.YtgmopcncbpdniaaGreatKRPayG
import Derived.Deep.DeepCutAuto
import Derived.Deep.CutBlock
import Derived.Test.YtgmopcncbpdniaaGreatKPlainN
import Derived.Test.YtgmopcncbpdniaaGreatKPlainT
import Derived.Test.YtgmopcncbpdniaaGreatKMade0
import Derived.Test.YtgmopcncbpdniaaGreatKNumR
import Derived.Test.YtgmopcncbpdniaaGreatKRefN
set_option maxHeartbeats 16000000
set_option maxRecDepth 100000
set_option linter.unusedVariables false
set_option linter.unusedSimpArgs false
namespace Go.Proofs.YtgmopcncbpdniaaGreat
open Go.RowKit
attribute [local go_sem ↓] Go.wp_at_zero Go.wp_at_succ
theorem rclear_any (vc vd:Value) (ls:Bool) (n:Nat) (cash:Nat->Int) (d:Nat->Nat->Int) (T:Nat->Rat) (s0:Nat) (w:World) (hc:Ints w vc n cash) (hm:Mat w vd n (fun _=>n) d) (hn0:0<n) (hn:n<=4)
  (hC:∀ i,i<n->0<=cash i/\cash i<=1000) (hd:∀ i j,0<=d i j) (hRG:Rng n cash d) (hs0:s0<2 ^ n) (hT:ClrQ n (cashQ cash) (totQ n d) (shQ n d) T)
  (hfix:(ls=true\/∀ i,i<n->freB (fun i=>s0.testBit i) (rch (owes d) n) n i=false)/\(∀ i,i<n->sumQ (fun j=>sysQ n cash d (fun i=>s0.testBit i) (freB (fun i=>s0.testBit i) (rch (owes d) n) n) (-1) i j*T j) n=sysQ n cash d (fun i=>s0.testBit i) (freB (fun i=>s0.testBit i) (rch (owes d) n) n) (-1) i n)/\
   ∀ i,i<n->0<=T i/\T i<=totQ n d i/\(s0.testBit i=true->T i=hasP n (cashQ cash) (shQ n d) T i))
  (hbest:∀ p,ClrQ n (cashQ cash) (totQ n d) (shQ n d) p->¬ UpB ls (sumQ p n) (sumQ T n)/\(¬ UpB ls (sumQ T n) (sumQ p n)->∀ i,i<n->p i=T i)) :
  Calls Tryz.prog 34 #[vc,vd,.bool ls] w fun e w'=>∃ v,e = .returned v/\VSl w' v n T 100000000/\Below w.heap.size w w':=by
 have HC:=jj hc;have HDM:=jj hm;have HR:=jj hRG;have HD:=jj hd;have HCB:=jj hC;have HFX:=jj hfix;have HBT:=jj hbest;have HTC:=jj hT;have hp2:2 ^ n<=256:=Nat.le_trans (Nat.pow_le_pow_right (n:=2) (by omega) hn) (by decide);obtain⟨da,db,d_o,dc,ra,rb,ro,rc,rfl,hdm⟩:=hm;clear hdm hC hd hRG hc hfix hbest hT;obtain⟨i1,hinf1,hw0,hw1,hz2⟩:=info_parts infoB1;obtain⟨N,hN⟩:∃ N,N=2 ^ n:=⟨_,rfl⟩;have hw2:=wrap_pow n hp2;rw [<-hN] at hw2 hp2 hs0;have HN:=jj hN;have hn64:n<64:=by omega
 clear hN;have LB0:=jj (own4_new w w.heap.size rfl (.bool false) (.slice none 0 0) (.bool false) (.slice none 0 0) 40);have KL0:=jj (boxes1 w (.cells #[.bool false,.slice none 0 0,.bool false,.slice none 0 0] 40));have BS0:Hid (BR n cash d T (w.alloc (.cells #[.bool false,.slice none 0 0,.bool false,.slice none 0 0] 40)) (.slice none 0 0) w.heap.size 0 s0):=jj ⟨_,_,_,_,_,_,_,_,LB0.out,.inl ⟨rfl,Nat.zero_le _⟩⟩;clear LB0;go_enter Tryz.func34,Tryz.ntmps34;go_wp2;go_loopw [8,10,11,12,13,14,15,16] (fun v8 v10 v11 v12 v13 v14 v15 v16 wr=>∃ s:Nat,s<=N/\v10 = .int .i64 (s:Nat)/\Hid (BR n cash d T wr v8 w.heap.size s s0)/\Hid (Below w.heap.size w wr)) (fun _ v10 _ _ _ _ _ _ _=>N - (intOf v10).toNat)
 case atStart=>exact⟨0,by omega,rfl,BS0,KL0⟩
 case round=>
  clear BS0 KL0;obtain⟨s,hs,rfl,BB,KL⟩:=hrel;obtain⟨wq,rfl⟩:∃ wq:World,wq=wr:=⟨_,rfl⟩;by_cases h:s<N
  ·have e1:decide ((s:Int)<(N:Int))=true:=by simpa using h
   have e1n:decide (s<N)=true:=by simpa using h
   have OB0:=jj (World.ownsRow_made (e:=4) (base:=wq.heap.size) (size:=1) wq #[] 0 jl (by unfold maxLen;omega) rfl);have VL0:=jj (boxes1 wq (.cells #[] 4));go_wp2;rw [hw2];clear hw2;go_loopw [11,12] (fun v11 v12 wr=>∃ j:Nat,j<=n/\v12 = .int .i64 (j:Nat)/\∃ ba bk,v11 = .slice ba j bk/\Hid (wr.ownsRow wq.heap.size 4 1 (.slice ba j bk) j (bcs (fun i=>s.testBit i) j))/\Hid (Below wq.heap.size wq wr)) (fun _ v12 _=>n - (intOf v12).toNat)
   case atStart=>exact⟨0,by omega,rfl,_,0,rfl,OB0,VL0⟩
   case round=>
    clear OB0 VL0;obtain⟨j,hj,rfl,ba,bk,rfl,OB,VL⟩:=hrel;by_cases h2:j<n
    ·have e2:decide ((j:Int)<(n:Int))=true:=by simpa using h2
     have e2n:decide (j<n)=true:=by simpa using h2
     have hi64:j<64:=by omega
     have hbit:=bit_of s j;have HS:=jj VL.out.size
     go_wp2_with (first
      | (at_builtin;refine wpList_append_own_at _ rfl (.tmp 31) (.tmp 37) 44 rfl wq.heap.size 4 i1 (.bool false) 1 1 Tryz.underlying44 hinf1 hw0 hw1 hz2 rfl (by decide) (.slice ba j bk) j (bcs (fun i=>s.testBit i) j) rfl (OB.out.alloc _) ⟨wr.heap.size,0,none⟩ 1 1 [.bool (s.testBit j)] rfl rfl (new1 wr (.bool (s.testBit j)) 4) (one1 _ rfl) (by unfold maxLen;omega) (by omega) (by have:=HS.out;simp;omega) ?_;intro v' w5 hown hgrow _ hbk;rw [<-bcs_succ (fun i=>s.testBit i)] at hown;have HOWN:=jj hown;obtain⟨va5,vk5,rfl⟩:=own_shape hown;have V5:=jj ((VL.out.alloc VL.out.size _).grown hgrow (by have:=HS.out;simp;omega) (fun kk e=>(OB.out.lt kk e).1));clear hown hgrow hbk))
     go_roundw
     case rel=>exact⟨j+1,by omega,by go_num,va5,vk5,rfl,HOWN,V5⟩
     case measure=>simp [intOf];omega
    ·obtain rfl:n=j:=by omega
     have e2:decide ((n:Int)<(n:Int))=false:=by simp
     have HF:Hid (Bsl wr (.slice ba n bk) n (fun i=>s.testBit i)):=jj (Sl.of_own OB.out (fun i hi=>by simp [bcs,hi,bF]));have KLi:=jj (jb KL.out VL.out);have BB:=jj (BB.out.below VL.out);have HFX2:Hid (s=s0->(ls=true\/∀ i,i<n->freB (fun i=>s.testBit i) (rch (owes d) n) n i=false)/\(∀ i,i<n->sumQ (fun j=>sysQ n cash d (fun i=>s.testBit i) (freB (fun i=>s.testBit i) (rch (owes d) n) n) (-1) i j*T j) n=sysQ n cash d (fun i=>s.testBit i) (freB (fun i=>s.testBit i) (rch (owes d) n) n) (-1) i n)/\∀ i,i<n->0<=T i/\T i<=totQ n d i/\(s.testBit i=true->T i=hasP n (cashQ cash) (shQ n d) T i)):=jj (fun e=>by rw [e];exact HFX.out);have HLT:Hid (w.heap.size<wr.heap.size):=jj (by obtain⟨_,_,_,_,_,_,_,_,o,_⟩:=BB.out;exact o.lt);clear OB VL
     go_upto_region 13 with (first
      | (go_at_call 55;(with_reducible refine (rpays_gen _ _ _ ls n cash d (fun i=>s.testBit i) (s=s0) T _ (HC.out.mono KLi.out jl) (HDM.out.mono KLi.out jl) HF.out hn0 hn HCB.out HD.out HR.out HFX2.out).mono ?_);rintro e w5 ⟨⟨g,gc,p,rfl,hg5,hp5,hpt⟩ | ⟨rfl,hno⟩,hb5⟩))
     rotate_left
     ·have BB:=jj ((BB.out.below hb5).skip hno);have KLi:=jj (jb KLi.out hb5);clear hno hb5;go_wp2;go_roundw
      case rel=>exact⟨s+1,by omega,by go_num,BB,KLi⟩
      case measure=>simp [intOf];omega
     have HGW:Hid (g≠w.heap.size):=jj (by have:=HLT.out;omega);have HP:=jj hp5;have HPT:=jj hpt;have BB:=jj (BB.out.below hb5);have KLi:=jj (jb KLi.out hb5);clear hp5 hpt hb5 HF HFX2 hg5;obtain⟨r,hr⟩:=bool_ex (RClr n cash d p n);have HRR:=jj hr;clear hr;rcases r with _ | _
     ·have HNS:Hid (s≠s0):=jj (fun e=>Bool.noConfusion (HRR.out.2 (rclr_of3 (clr_cong HTC.out (HPT.out e)))))
      go_wp2_with (first
       | (go_at_call 32;(with_reducible refine (rclears_any _ _ _ n cash d p 100000000 false _ HRR.out (HC.out.mono KLi.out jl) (HDM.out.mono KLi.out jl) HP.out (by omega) HCB.out HD.out (fun i j hi hj=>(HR.out.deb i j hi hj).2) (fun i hi=>(HR.out.tot i hi).2) (by omega) (by omega)).mono ?_);rintro e w6 ⟨rfl,hb6⟩;have BB:=jj (BB.out.below hb6);have KLi:=jj (jb KLi.out hb6);clear hb6))
      go_roundw
      case rel=>exact⟨s+1,by omega,by go_num,jj (BB.out.skip HNS.out),KLi⟩
      case measure=>simp [intOf];omega
     ·have HPC:=jj (clr_of3 (HRR.out.1 rfl))
      go_wp2_with (first
       | (go_at_call 32;(with_reducible refine (rclears_any _ _ _ n cash d p 100000000 true _ HRR.out (HC.out.mono KLi.out jl) (HDM.out.mono KLi.out jl) HP.out (by omega) HCB.out HD.out (fun i j hi hj=>(HR.out.deb i j hi hj).2) (fun i hi=>(HR.out.tot i hi).2) (by omega) (by omega)).mono ?_);rintro e w6 ⟨rfl,hb6⟩;have HP:=jj (HP.out.mono hb6 jl);have BB:=jj (BB.out.below hb6);have KLi:=jj (jb KLi.out hb6);clear hb6)
       | (go_at_call 16;(with_reducible refine (qv_whole 0 _ (by omega) (by omega)).mono ?_);rintro e w7 ⟨r7,rfl,hr7,hb7⟩;obtain⟨s6,a6,n6,c6,t6,b6,l6,k6,rfl,Q6⟩:=hr7.shape;have HP:=jj (HP.out.mono hb7 jl);have BB:=jj (BB.out.below hb7);have KLi:=jj (jb KLi.out hb7);clear hr7 hb7))
      have OS0:=jj (own4_new w7 w7.heap.size rfl (.bool s6) (.slice a6 n6 c6) (.bool t6) (.slice b6 l6 k6) 40);have VS0:=jj (boxes1 w7 (.cells #[.bool s6,.slice a6 n6 c6,.bool t6,.slice b6 l6 k6] 40));have Q6:=jj (Q6.out.mono VS0.out jl);obtain⟨SB,hSB⟩:∃ SB,SB=w7.heap.size:=⟨_,rfl⟩;rw [<-hSB] at OS0 ⊢;have HSB:=jj hSB;have HSL:Hid (w.heap.size<SB):=jj (by obtain⟨_,_,_,_,_,_,_,_,o,_⟩:=BB.out;have:=o.lt;omega);clear hSB;generalize w7.alloc (.cells #[.bool s6,.slice a6 n6 c6,.bool t6,.slice b6 l6 k6] 40)=w8 at *
      go_loopw [16] (fun v16 wi=>∃ j:Nat,j<=n/\v16 = .int .i64 (j:Nat)/\∃ s7 a7 n7 c7 t7 b7 l7 k7 KA,Hid (Own4 wi SB (.bool s7) (.slice a7 n7 c7) (.bool t7) (.slice b7 l7 k7))/\Hid (QV wi (.agg #[.bool s7,.slice a7 n7 c7,.bool t7,.slice b7 l7 k7]) (sumQ p j) KA)/\Hid (KA+1=2 ^ j*100000001)/\Hid (Below w7.heap.size w7 wi)) (fun v16 _=>n - (intOf v16).toNat)
      case atStart=>exact⟨0,by omega,rfl,s6,a6,n6,c6,t6,b6,l6,k6,100000000,OS0,jj (Q6.out.le (by omega)),jj (by omega),VS0⟩
      case round=>
       clear OS0 VS0 Q6;obtain⟨j,hj,rfl,s7,a7,n7,c7,t7,b7,l7,k7,KA,OS,QS,HK,VS⟩:=hrel;obtain⟨wj,rfl⟩:∃ wj:World,wj=wr:=⟨_,rfl⟩;by_cases h3:j<n
       ·have e3:decide ((j:Int)<(n:Int))=true:=by simpa using h3
        have e3n:decide (j<n)=true:=by simpa using h3
        have ixp:=fun W=>ixV g n gc j h3 W
        have HPj:=jj (HP.out.mono VS.out jl);obtain⟨g',gc',hge,hgc',hgl,hgv⟩:=HPj.out.val;injection hge with q1 q2 q3;injection q1 with q1;injection q1 with q1 q4 q5;subst q1 q3;obtain⟨sp,ap,np,cp,tp,bp,lp,kp,y0,y1,y2,y3,yq⟩:=hgv j h3;have HQP:=jj yq;have HY:=jj (And.intro y0 (And.intro y1 (And.intro y2 y3)));have HGL2:=jj hgl;obtain⟨hk1,hk2,hk3⟩:=all_bound j (by omega) KA HK.out;have HK3:=jj hk3;have HFR:Hid (w7.heap.size<=SB):=jj (Nat.le_of_eq HSB.out.symm);clear hgv y0 y1 y2 y3 yq hgl hgc' hk3
        have keepR:Hid (∀ w',Below wj.heap.size wj w'->w'.cell? ⟨SB,0,none⟩=some (.bool s7)/\w'.cell? ⟨SB,1,none⟩=some (.slice a7 n7 c7)/\w'.cell? ⟨SB,2,none⟩=some (.bool t7)/\w'.cell? ⟨SB,3,none⟩=some (.slice b7 l7 k7)/\w'.cell? ⟨g,j*4,none⟩=some (.bool sp)/\w'.cell? ⟨g,j*4+1,none⟩=some (.slice ap np cp)/\w'.cell? ⟨g,j*4+2,none⟩=some (.bool tp)/\w'.cell? ⟨g,j*4+3,none⟩=some (.slice bp lp kp)):=
         jj (fun w' hb=>⟨bel1 hb OS.out.c0 OS.out.lt,bel1 hb OS.out.c1 OS.out.lt,bel1 hb OS.out.c2 OS.out.lt,bel1 hb OS.out.c3 OS.out.lt,bel1 hb HY.out.1 HGL2.out,bel1 hb HY.out.2.1 HGL2.out,bel1 hb HY.out.2.2.1 HGL2.out,bel1 hb HY.out.2.2.2 HGL2.out⟩)
        have VL:=jj (jr wj).drew;go_wp2;refine wp_region_last (S:=fun w'=>w'.cell? ⟨SB,0,none⟩=some (.bool s7)/\w'.cell? ⟨SB,1,none⟩=some (.slice a7 n7 c7)/\w'.cell? ⟨SB,2,none⟩=some (.bool t7)/\w'.cell? ⟨SB,3,none⟩=some (.slice b7 l7 k7)/\w'.cell? ⟨g,j*4,none⟩=some (.bool sp)/\w'.cell? ⟨g,j*4+1,none⟩=some (.slice ap np cp)/\w'.cell? ⟨g,j*4+2,none⟩=some (.bool tp)/\w'.cell? ⟨g,j*4+3,none⟩=some (.slice bp lp kp)) (by kernel_rfl) (by kernel_rfl) (keepR.out _ VL.out) (fun hHeld=>?_);simp only [List.pop_toArray,List.dropLast_cons_cons,List.dropLast_singleton];refine wpAnyH_take (i:=0) (v:=?_) rfl (by kernel_rfl) (by kernel_rfl) (by kernel_rfl) (fun _ _ _ h=>h) (Or.inl ⟨by rfl,?_⟩) (by assumption) ?_;rotate_left
        ·(intro w0 hSw;(try dsimp only at hSw);go_simp;all_goals (with_reducible rfl))
        simp only [Act.put,js,jz,jc];refine wpAnyH_take (i:=1) (v:=?_) rfl (by kernel_rfl) (by kernel_rfl) (by kernel_rfl) (fun _ _ _ h=>h) (Or.inl ⟨by rfl,?_⟩) (by assumption) ?_;rotate_left
        ·(intro w0 hSw;(try dsimp only at hSw);go_simp;all_goals (with_reducible rfl))
        simp only [Act.put,js,jz,jc];refine wpAnyH_take (i:=2) (v:=?_) rfl (by kernel_rfl) (by kernel_rfl) (by kernel_rfl) (fun _ _ _ h=>h) (Or.inl ⟨by rfl,?_⟩) (by assumption) ?_;rotate_left
        ·(intro w0 hSw;(try dsimp only at hSw);go_simp;all_goals (with_reducible rfl))
        simp only [Act.put,js,jz,jc];refine wpAnyH_take (i:=3) (v:=?_) rfl (by kernel_rfl) (by kernel_rfl) (by kernel_rfl) (fun _ _ _ h=>h) (Or.inl ⟨by rfl,?_⟩) (by assumption) ?_;rotate_left
        ·(intro w0 hSw;(try dsimp only at hSw);go_simp;all_goals (with_reducible rfl))
        simp only [Act.put,js,jz,jc];refine wpAnyH_take (i:=4) (v:=?_) rfl (by kernel_rfl) (by kernel_rfl) (by kernel_rfl) (fun _ _ _ h=>h) (Or.inl ⟨by rfl,?_⟩) (by assumption) ?_;rotate_left
        ·(intro w0 hSw;(try dsimp only at hSw);go_simp;all_goals (with_reducible rfl))
        simp only [Act.put,js,jz,jc];refine wpAnyH_ready (rs:=[5]) (by kernel_rfl) (by simp) ?_;refine AllReadyH.cons rfl (fun Kn hKn=>?_) AllReadyH.nil;go_simp
        (go_at_call 18;(with_reducible refine (qv_add _ _ (sumQ p j) (p j) KA _ (QS.out.mono VL.out jl) ((HQP.out.mono VL.out jl).le hk1) (by omega)).mono ?_);rintro e w8 ⟨r8,rfl,hr8,hb8⟩;obtain⟨s9,a9,n9,c9,t9,b9,l9,k9,rfl,Q9⟩:=hr8.shape;clear hr8;have VL:=jj (jb VL.out hb8);have OS6:=jj (OS.out.below VL.out OS.out.lt);obtain⟨p0,p1,p2,p3,pf,pl⟩:=OS6.out)
        go_wp2_with fail;refine hKn.out _ _ ?_ (fun hHeld=>?_)
        ·(try dsimp only);exact keepR.out _ VL.out
        clear hKn Kn
        (try simp only [Act.put,js,jz,jc])
        refine wpAnyH_done (by kernel_rfl) ?_ _;refine lastQ_step rfl (fun Kn hKn=>?_);go_simp;refine hKn.out _ _ ?_;clear hKn Kn
        (try simp only [Act.put,js,jz,jc])
        have O6:=jj (OS6.out.anew (.bool s9) (.slice a9 n9 c9) (.bool t9) (.slice b9 l9 k9));have Q6:=jj (Q9.out.at4 OS6.out (.bool s9) (.slice a9 n9 c9) (.bool t9) (.slice b9 l9 k9));have V6:=jj (below_set4q (jb VS.out VL.out) HFR.out (.bool s9) (.slice a9 n9 c9) (.bool t9) (.slice b9 l9 k9));clear p0 p1 p2 p3 pf pl;go_wp2;go_roundw
        case rel=>exact⟨j+1,by omega,by go_num,s9,a9,n9,c9,t9,b9,l9,k9,2*KA+1,O6,Q6,HK3,V6⟩
        case measure=>simp [intOf];omega
       ·obtain rfl:n=j:=by omega
        have e3:decide ((n:Int)<(n:Int))=false:=by simp
        obtain⟨hk1,hk2,-⟩:=all_bound n hn KA HK.out;have HP:=jj (HP.out.mono VS.out jl);have BB:=jj (BB.out.below VS.out);have KLi:=jj (jb KLi.out VS.out);have QS:=jj (QS.out.le hk2);clear VS HK hk1 hk2;obtain⟨z0,z1,z2,z3,zf,zl⟩:=OS.out;obtain⟨sb,ab,nb,cb,tb,bb,lb,kb,O1,hv⟩:=BB.out;have OL:=jj O1;clear O1 BB;rcases hv with ⟨hv1,hnone⟩ | ⟨PB,cap,x,hv1,hr0,hc0,hq0,ht0⟩
        ·subst hv1;have heq:=eqlQ_none;have HNN:=jj hnone;obtain⟨y0,y1,y2,y3,yf,yl⟩:=OL.out;clear hnone;go_wp2
         go_region
         all_goals
          go_wp2;go_roundw
          case rel=>exact⟨s+1,by omega,by go_num,jj ⟨s7,a7,n7,c7,t7,b7,l7,k7,OL.out.drew.anew (.bool s7) (.slice a7 n7 c7) (.bool t7) (.slice b7 l7 k7),.inr ⟨g,gc,p,rfl,VSl.at4 (HP.out.mono ((Below.refl _ _).drew) jl) OL.out.drew _ _ _ _ HGW.out,HPC.out,(QV.mono QS.out ((Below.refl _ _).drew) jl).at4 OL.out.drew (.bool s7) (.slice a7 n7 c7) (.bool t7) (.slice b7 l7 k7),fun q=>HPT.out (by have:=HNN.out;omega)⟩⟩,jj (below_set4q KLi.out.drew jl (.bool s7) (.slice a7 n7 c7) (.bool t7) (.slice b7 l7 k7))⟩
          case measure=>simp [intOf];omega
        ·subst hv1;have heq:=eqlQ_some ⟨PB,0,none⟩ n cap;have R0:=jj hr0;have HXC:=jj hc0;have HXQ:=jj hq0;have HXT:=jj ht0;obtain⟨y0,y1,y2,y3,yf,yl⟩:=OL.out;clear hr0 hc0 hq0 ht0;obtain⟨u1,hu1⟩:∃ u1,u1=(decide (cmpR (sumQ p n) (sumQ x n)<0) == ls):=⟨_,rfl⟩;rcases u1 with _ | _
         ·have HKX:Hid (s0<s+1->∀ i,i<n->x i=T i):=jj (fun q=>by
           by_cases e:s0<s
           ·exact HXT.out e
           ·have hp:=HPT.out (by omega);refine (HBT.out x HXC.out).2 (fun u=>?_);have u1:=u.1;rw [<-sum_cong hp,<-hu1] at u1;cases u1)
          have hu:=hu1.symm;clear hu1
          go_wp2_with (first
           | (go_at_call 14;(with_reducible refine (qv_cmp _ _ (sumQ p n) (sumQ x n) 1700000000 _ QS.out HXQ.out (by omega)).mono ?_);rintro e w9 ⟨rfl,hb9⟩;have OL:=jj (OL.out.below hb9 OL.out.lt);have HXQ:=jj (HXQ.out.mono hb9 jl);have R0:=jj (R0.out.mono hb9 jl);have KLi:=jj (jb KLi.out hb9);clear hb9))
          go_roundw
          case rel=>exact⟨s+1,by omega,by go_num,jj ⟨sb,ab,nb,cb,tb,bb,lb,kb,OL.out,.inr ⟨PB,cap,x,rfl,R0.out,HXC.out,HXQ.out,HKX.out⟩⟩,KLi⟩
          case measure=>simp [intOf];omega
         ·by_cases hne:sumQ p n=sumQ x n
          ·have HKX:Hid (s0<s+1->∀ i,i<n->x i=T i):=jj (fun q=>by
            by_cases e:s0<s
            ·exact HXT.out e
            ·have hp:=HPT.out (by omega);refine (HBT.out x HXC.out).2 (fun u=>u.2 ?_);rw [<-sum_cong hp,hne])
           have hu:=hu1.symm;have d6:(cmpR (sumQ p n) (sumQ x n) == 0)=true:=by rw [(cmpR_zero _ _).2 hne];rfl
           clear hu1 hne
           go_wp2_with (first
            | (go_at_call 14;(with_reducible refine (qv_cmp _ _ (sumQ p n) (sumQ x n) 1700000000 _ QS.out HXQ.out (by omega)).mono ?_);rintro e w9 ⟨rfl,hb9⟩;clear z0 z1 z2 z3 zf zl y0 y1 y2 y3 yf yl;have QS:=jj (QS.out.mono hb9 jl);have OS:=jj (OS.out.below hb9 OS.out.lt);have OL:=jj (OL.out.below hb9 OL.out.lt);have HXQ:=jj (HXQ.out.mono hb9 jl);have R0:=jj (R0.out.mono hb9 jl);have KLi:=jj (jb KLi.out hb9);obtain⟨z0,z1,z2,z3,zf,zl⟩:=OS.out;obtain⟨y0,y1,y2,y3,yf,yl⟩:=OL.out;clear hb9))
           go_roundw
           case rel=>exact⟨s+1,by omega,by go_num,jj ⟨sb,ab,nb,cb,tb,bb,lb,kb,OL.out,.inr ⟨PB,cap,x,rfl,R0.out,HXC.out,HXQ.out,HKX.out⟩⟩,KLi⟩
           case measure=>simp [intOf];omega
          ·have HKP:Hid (s0<s+1->∀ i,i<n->p i=T i):=jj (fun q=>by
            by_cases e:s0<s
            ·exfalso;have hx:=HXT.out e;refine (HBT.out p HPC.out).1 ⟨?_,?_⟩
             ·rw [<-sum_cong hx,<-hu1]
             ·rw [<-sum_cong hx];exact hne
            ·exact HPT.out (by omega))
           have hu:=hu1.symm;have d6:(cmpR (sumQ p n) (sumQ x n) == 0)=false:=by have:=fun e=>hne ((cmpR_zero _ _).1 e);simpa using this
           clear hu1 hne
           go_wp2_with (first
            | (go_at_call 14;(with_reducible refine (qv_cmp _ _ (sumQ p n) (sumQ x n) 1700000000 _ QS.out HXQ.out (by omega)).mono ?_);rintro e w9 ⟨rfl,hb9⟩;clear z0 z1 z2 z3 zf zl y0 y1 y2 y3 yf yl;have HP:=jj (HP.out.mono hb9 jl);have QS:=jj (QS.out.mono hb9 jl);have OS:=jj (OS.out.below hb9 OS.out.lt);have OL:=jj (OL.out.below hb9 OL.out.lt);have HXQ:=jj (HXQ.out.mono hb9 jl);have KLi:=jj (jb KLi.out hb9);obtain⟨z0,z1,z2,z3,zf,zl⟩:=OS.out;obtain⟨y0,y1,y2,y3,yf,yl⟩:=OL.out;clear hb9))
           go_region
           all_goals
            go_wp2;go_roundw
            case rel=>exact⟨s+1,by omega,by go_num,jj ⟨s7,a7,n7,c7,t7,b7,l7,k7,OL.out.drew.anew (.bool s7) (.slice a7 n7 c7) (.bool t7) (.slice b7 l7 k7),.inr ⟨g,gc,p,rfl,VSl.at4 (HP.out.mono ((Below.refl _ _).drew) jl) OL.out.drew _ _ _ _ HGW.out,HPC.out,(QV.mono QS.out ((Below.refl _ _).drew) jl).at4 OL.out.drew (.bool s7) (.slice a7 n7 c7) (.bool t7) (.slice b7 l7 k7),HKP.out⟩⟩,jj (below_set4q KLi.out.drew jl (.bool s7) (.slice a7 n7 c7) (.bool t7) (.slice b7 l7 k7))⟩
            case measure=>simp [intOf];omega
  ·obtain rfl:N=s:=by omega
   have e1:decide ((N:Int)<(N:Int))=false:=by simp
   obtain⟨_,_,_,_,_,_,_,_,-,⟨hv1,hn1⟩ | ⟨PB,cap,x,hv1,hr,hcx,-,hx⟩⟩:=BB.out
   ·exfalso;omega
   ·subst hv1;have HX:=jj (hr.congr (hx hs0));clear hr hx hcx;go_wp2;go_ret;exact⟨_,rfl,HX.out,KL.out⟩
def Mkt (nc n:Nat) (cash:Nat->Int) (m:Nat->Nat) (d:Nat->Nat->Int):Prop:=(∀ i,i<nc->0<=cash i/\cash i<=1000)/\Debts n m d/\nc=n
theorem market_any (vc vd:Value) (nc n:Nat) (cash:Nat->Int) (m:Nat->Nat) (d:Nat->Nat->Int) (r:Bool) (hr:r=true↔Mkt nc n cash m d) (w:World) (hc:Ints w vc nc cash) (hd:Mat w vd n m d) (b1:nc<=1048576) (b2:n<=1048576) :
  Calls Tryz.prog 23 #[vc,vd] w fun e w'=>e = .returned (.bool r)/\Drawn w w':=by
 have HD:=jj hd;obtain⟨da,db,d_o,dc,ra,rb,ro,rc,rfl,-⟩:=hd;obtain⟨a,b,o,c,rfl,hs⟩:=hc;have HR:=jj hr;have HS:=jj hs;clear hr hs;go_enter Tryz.func23,Tryz.ntmps23;go_wp2;go_loopw [5] (fun v4 wr=>∃ k:Nat,k<=nc/\v4 = .int .i64 (k:Nat)/\Hid (∀ i,i<k->0<=cash i/\cash i<=1000)/\Hid (Drawn w wr)) (fun v4 _=>nc - (intOf v4).toNat)
 case atStart=>exact⟨0,by omega,rfl,jj (fun i hi=>by omega),jj (Drawn.refl _)⟩
 case round=>
  obtain⟨k,hk,rfl,HG,hd⟩:=hrel;by_cases h:k<nc
  ·have hix:=fun W=>ixI HS.out k c h W
   have hjc:=(HS.out.drawn hd.out).cell k h;simp only [ic] at hjc;by_cases h4:0<=cash k/\cash k<=1000
   ·have H4:=jj h4;clear h4;go_wp2_with (go_at_call 53;(with_reducible refine (in_any _ _ _ true (by simpa using H4.out) _).mono ?_);rintro e w1 ⟨rfl,rfl⟩);go_roundw
    case rel=>exact⟨k+1,by omega,by go_num,jj (ext_lt HG.out H4.out),hd⟩
    case measure=>simp [intOf];omega
   ·have H4:=jj h4;clear h4;obtain rfl:r=false:=bool_false HR.out (fun q=>H4.out (q.1 k h));go_wp2_with (go_at_call 53;(with_reducible refine (in_any _ _ _ false (by simpa using H4.out) _).mono ?_);rintro e w1 ⟨rfl,rfl⟩);go_ret;exact⟨rfl,hd.out⟩
  ·obtain rfl:k=nc:=by omega
   by_cases hD:Debts n m d
   ·have HDB:=jj hD;clear hD;by_cases hn:k=n
    ·have HN:=jj hn;obtain rfl:r=true:=HR.out.2 ⟨HG.out,HDB.out,hn⟩;have e1:(((k:Nat):Int) == ((n:Nat):Int))=true:=by simp;omega
     clear hn;go_wp2_with (go_at_call 54;(with_reducible refine (debts_any _ n m d true ⟨fun _=>HDB.out,fun _=>rfl⟩ _ (HD.out.drawn hd.out) b2).mono ?_);rintro e w1 ⟨rfl,hd1⟩);go_ret;exact⟨rfl,hd.out.trans hd1⟩
    ·obtain rfl:r=false:=bool_false HR.out (fun q=>hn q.2.2);have e1:(((k:Nat):Int) == ((n:Nat):Int))=false:=by simp;omega
     clear hn;go_wp2_with (go_at_call 54;(with_reducible refine (debts_any _ n m d true ⟨fun _=>HDB.out,fun _=>rfl⟩ _ (HD.out.drawn hd.out) b2).mono ?_);rintro e w1 ⟨rfl,hd1⟩);go_ret;exact⟨rfl,hd.out.trans hd1⟩
   ·obtain rfl:r=false:=bool_false HR.out (fun q=>hD q.2.1);have HDB:=jj hD;clear hD;go_wp2_with (go_at_call 54;(with_reducible refine (debts_any _ n m d false ⟨fun e=>Bool.noConfusion e,fun h=>absurd h HDB.out⟩ _ (HD.out.drawn hd.out) b2).mono ?_);rintro e w1 ⟨rfl,hd1⟩);go_ret;exact⟨rfl,hd.out.trans hd1⟩
theorem read_no (vc vd:Value) (nc n:Nat) (cash:Nat->Int) (m:Nat->Nat) (d:Nat->Nat->Int) (w:World) (hc:Ints w vc nc cash) (hd:Mat w vd n m d) (b1:nc<=1048576) (b2:n<=1048576) (b3:∀ i,i<n->m i<=1048576) (hno:¬ Mkt nc n cash m d) :
  Calls Tryz.prog 38 #[vc,vd] w fun e w'=>e = .returned (.tuple #[.pointer none,.bool false])/\Below w.heap.size w w':=by
 have HC:=jj hc;have HD:=jj hd;have HN:=jj hno;have B3:=jj b3;have KW:=jj (jr w);obtain⟨da,db,d_o,dc,ra,rb,ro,rc,rfl,-⟩:=hd;obtain⟨a,b,o,c,rfl,-⟩:=hc;clear hno b3;go_enter Tryz.func38,Tryz.ntmps38;by_cases hD:Debts n m d
 ·have HDB:=jj hD;clear hD;by_cases hn:nc=n
  ·subst hn;have hneq:(((nc:Nat):Int) != ((nc:Nat):Int))=false:=by simp
   have HW:Hid (¬ ∀ i,i<nc->0<=cash i/\cash i<=1000):=jj (fun q=>HN.out ⟨q,HDB.out,rfl⟩)
   go_wp2_with (first
    | (go_at_call 69;(with_reducible refine (square_any _ nc m d true ⟨fun _=>HDB.out,fun _=>rfl⟩ _ HD.out (by omega) B3.out).mono ?_);rintro e w1 ⟨rfl,hd1⟩;have KW:=jj (KW.out.trans (hd1.below _));have HC:=jj (HC.out.drawn hd1))
    | (go_at_call 70;(with_reducible refine (within_any _ nc cash false ⟨fun e=>Bool.noConfusion e,fun h=>absurd h HW.out⟩ _ HC.out b1).mono ?_);rintro e w2 ⟨rfl,hd2⟩;have KW:=jj (KW.out.trans (hd2.below _))))
   go_ret2;exact⟨rfl,KW.out⟩
  ·have hneq:(((nc:Nat):Int) != ((n:Nat):Int))=true:=by simp;omega
   clear hn
   go_wp2_with (first
    | (go_at_call 69;(with_reducible refine (square_any _ n m d true ⟨fun _=>HDB.out,fun _=>rfl⟩ _ HD.out b2 B3.out).mono ?_);rintro e w1 ⟨rfl,hd1⟩;have KW:=jj (KW.out.trans (hd1.below _))))
   go_ret2;exact⟨rfl,KW.out⟩
 ·have HDB:=jj hD;clear hD
  go_wp2_with (first
   | (go_at_call 69;(with_reducible refine (square_any _ n m d false ⟨fun e=>Bool.noConfusion e,fun h=>absurd h HDB.out⟩ _ HD.out b2 B3.out).mono ?_);rintro e w1 ⟨rfl,hd1⟩;have KW:=jj (KW.out.trans (hd1.below _))))
  go_ret2;exact⟨rfl,KW.out⟩
theorem clear_no (vc vd:Value) (nc n:Nat) (cash:Nat->Int) (m:Nat->Nat) (d:Nat->Nat->Int) (w:World) (hc:Ints w vc nc cash) (hd:Mat w vd n m d) (b1:nc<=1048576) (b2:n<=1048576) (b3:∀ i,i<n->m i<=1048576) (hno:¬ Mkt nc n cash m d) :
  Calls Tryz.prog 11 #[vc,vd] w fun e w'=>e = .returned (.tuple #[.slice none 0 0,.int .i64 1])/\Below w.heap.size w w':=by
 have HC:=jj hc;have HD:=jj hd;have HN:=jj hno;have B3:=jj b3;clear hc hd hno b3;go_enter Tryz.func11,Tryz.ntmps11;go_wp2_with (go_at_call 38;(with_reducible refine (read_no _ _ nc n cash m d _ HC.out HD.out b1 b2 B3.out HN.out).mono ?_);rintro e w1 ⟨rfl,hb1⟩);go_ret2;exact⟨rfl,hb1⟩
end Go.Proofs.YtgmopcncbpdniaaGreat
namespace Go.Proofs.YtgmopcncbpdniaaGreat
open Go.RowKit
theorem Mat.cong {w:World} {v:Value} {n:Nat} {m m':Nat->Nat} {f g:Nat->Nat->Int} (h:Mat w v n m f) (hm:∀ i,i<n->m i=m' i) (e:∀ i j,i<n->j<m' i->f i j=g i j):Mat w v n m' g:=by
 obtain⟨a,b,o,c,ra,rb,ro,rc,rfl,h2⟩:=h.row_len hm;exact⟨a,b,o,c,ra,rb,ro,rc,rfl,⟨h2.top,fun i hi=>(h2.row i hi).congr (fun j hj=>by unfold ic;rw [e i j hi hj])⟩⟩
def inD (n:Nat) (d:Nat->Nat->Int) (i j:Nat):Int:=if i<n/\j<n then d i j else 0
theorem inD_debts {n:Nat} {m:Nat->Nat} {d:Nat->Nat->Int} (h:Debts n m d):Debts n (fun _=>n) (inD n d):=by
 refine⟨h.1,h.2.1,fun i hi=>⟨rfl,?_,fun j hj=>?_⟩⟩
 ·unfold inD;rw [if_pos ⟨hi,hi⟩];exact (h.2.2 i hi).2.1
 ·unfold inD;rw [if_pos ⟨hi,hj⟩];exact (h.2.2 i hi).2.2 j hj
theorem inD_pos {n:Nat} {m:Nat->Nat} {d:Nat->Nat->Int} (h:Debts n m d):∀ i j,0<=inD n d i j:=fun i j=>by
 unfold inD;split
 ·rename_i e;exact ((h.2.2 i e.1).2.2 j e.2).1
 ·omega
theorem inD_mat {w:World} {v:Value} {n:Nat} {m:Nat->Nat} {d:Nat->Nat->Int} (hm:Mat w v n m d) (h:Debts n m d):Mat w v n (fun _=>n) (inD n d):=
 hm.cong (fun i hi=>(h.2.2 i hi).1) (fun i j hi hj=>by unfold inD;rw [if_pos ⟨hi,hj⟩])
theorem cutM_small (m:Nat->Nat) (i:Nat):cutM m i<=1048576:=by unfold cutM;omega
attribute [local go_sem ↓] Go.wp_at_zero Go.wp_at_succ
theorem conv_bts (W:World) (g c x L:Nat) (h:∀ i,i<L->W.cell? ⟨g,i,none⟩=some (.int .u8 (48+(d10 x (L - 1 - i):Nat)))) :
  ∃ s,Bts s L (fun i=>48+d10 x (L - 1 - i))/\(convert 176 9 (.slice (some ⟨g,0,none⟩) L c)).run Tryz.prog W = .ok (.string s) W:=by
 refine⟨((List.range L).map (fun i=>48+((d10 x (L - 1 - i):Nat):Int))).foldl (fun r n=>r.push (UInt8.ofNat n.toNat)) ByteArray.empty,?_,?_⟩;rotate_left
 ·rw [run_convert_bytes_string W 176 9 5 _ _ _ Tryz.underlying176 Tryz.underlying5 Tryz.underlying9,
   run_bytesToString W ⟨g,0,none⟩ L c ((List.range L).map (fun i=>48+(d10 x (L - 1 - i):Nat))) ?_]
  have hl:=run_loadCells_list (P:=Tryz.prog) W ⟨g,0,none⟩ (((List.range L).map (fun i=>48+((d10 x (L - 1 - i):Nat):Int))).map (Value.int .u8)) (fun j v hv=>by
   have hj:j<L:=by
    have:=(List.getElem?_eq_some_iff.1 hv).1;simpa using this
   simp [hj] at hv;subst hv;rw [add_at,Nat.zero_add];exact h j hj)
  simpa using hl
 ·have hp:=foldl_push ((List.range L).map (fun i=>48+((d10 x (L - 1 - i):Nat):Int))) ByteArray.empty;generalize (List.map (fun i=>48+((d10 x (L - 1 - i):Nat):Int)) (List.range L)).foldl (fun r n=>r.push (UInt8.ofNat n.toNat)) ByteArray.empty=s at *
  have hs:s.data.size=L:=by
   have h2:=congrArg List.length hp;rw [Array.length_toList] at h2;rw [h2,List.length_append,List.length_map,List.length_map,List.length_range];exact Nat.zero_add L
  refine⟨hs,fun i hi=>?_⟩;have hi2:i<s.data.size:=hi
  have h3:s.data.toList[i]? = some (UInt8.ofNat (48+d10 x (L - 1 - i))):=by
   rw [hp,show ByteArray.empty.data.toList = [] from rfl,List.nil_append,List.getElem?_map,List.getElem?_map,List.getElem?_range (by omega)];rfl
  have h4:s.data.toList[i]? = some (s[i]):=by
   rw [Array.getElem?_toList,Array.getElem?_eq_getElem hi2];rfl
  rw [h3] at h4;rw [<-Option.some.inj h4,UInt8.toNat_ofNat'];have:=d10_lt x (L - 1 - i);show (48+d10 x (L - 1 - i)) % 2 ^ 8=48+d10 x (L - 1 - i);omega
theorem d10_div (x e:Nat):d10 (x / 10000) e=d10 x (e+4):=by
 unfold d10;rw [Nat.div_div_eq_div_mul,Nat.pow_add,Nat.mul_comm (10 ^ e),show 10 ^ 4=10000 from rfl]
theorem d10_mod (x e:Nat) (he:e<4):d10 (x % 10000) e=d10 x e:=by
 unfold d10
 match e,he with
 | 0,_=>omega
 | 1,_=>omega
 | 2,_=>omega
 | 3,_=>omega
def figB (x N j:Nat) (i:Nat):Nat:=48+d10 (x / 10000 ^ j) (4*(N - j) - 1 - i)
theorem figB_step {a b:ByteArray} {x N j:Nat} (hj:j+1<=N) (ha:Bts a (4*(N - (j+1))) (figB x N (j+1))) (hb:Bts b 4 (fun i=>48+d10 (dg x j) (4 - 1 - i))):Bts (a ++ b) (4*(N - j)) (figB x N j):=by
 have h:=bts_append ha hb;have e:4*(N - (j+1))+4=4*(N - j):=by omega
 rw [e] at h;refine h.congr (fun k hk=>?_);split
 ·rename_i h1
  unfold figB;congr 1;rw [Nat.pow_succ,<-Nat.div_div_eq_div_mul,d10_div];congr 1;omega
 ·rename_i h1
  unfold figB;congr 1;have e2:dg x j=x / 10000 ^ j % 10000:=rfl;rw [e2,d10_mod _ _ (by omega)];congr 1;omega
theorem bts_txt {s:ByteArray} {x L:Nat} (h:Bts s L (fun i=>48+d10 x (L - 1 - i))) (hL:Len10 x L):IsTxt s x:=⟨L,hL,h.1,fun i hi=>h.2 i hi⟩
theorem figures_any (s:Bool) (u:Value) (x:Nat) (w:World) (hu:Dg w u x) (hn:nd x<=100000000) :
  Calls Tryz.prog 124 #[.agg #[.bool s,u]] w fun e w'=>∃ t,e = .returned (.string t)/\IsTxt t x/\Below w.heap.size w w':=by
 obtain⟨a,b,o,c,rfl,hs⟩:=hu;have HS:=jj hs;clear hs;have KW0:=jj (boxes1 w (.cells #[.bool s,.slice a (nd x) c] 38));have O1:=jj (own2_new w w.heap.size rfl (.bool s) (.slice a (nd x) c) 38);have hpos:=nd_pos x;rcases Nat.eq_zero_or_pos x with h0 | h0
 ·subst h0;have e0:nd 0=0:=nd_zero;rw [e0] at KW0 O1 ⊢;clear hpos e0 O1;go_enter Tryz.func124,Tryz.ntmps124;go_wp2;go_ret;exact⟨_,rfl,isTxt_zero,KW0.out⟩
 ·have hN0:0<nd x:=hpos.2 h0;obtain⟨N,hN⟩:∃ N,N=nd x:=⟨_,rfl⟩;have HN:=jj hN;have HX:=jj h0;rw [<-hN] at HS KW0 O1 hN0 hn ⊢;clear hpos hN h0;have d0:((N:Int) == 0)=false:=by simp;omega
  have d0n:¬ N=0:=by omega
  have S0:Hid (Bts ByteArray.empty (4*(N - N)) (figB x N N)):=jj ⟨by simp,fun i hi=>by simp at hi⟩;go_enter Tryz.func124,Tryz.ntmps124;go_wp2;clear d0 d0n;go_loopw [3,4,5,6] (fun v3 v4 v5 v6 wr=>∃ j:Nat,j<=N/\v4 = .int .i64 ((j:Int) - 1)/\∃ t,v3 = .string t/\Hid (Bts t (4*(N - j)) (figB x N j))/\Hid (Below w.heap.size w wr)/\Hid (Own2 wr w.heap.size (.bool s) (.slice a N c))) (fun _ v4 _ _ _=>(intOf v4+1).toNat)
  case atStart=>exact⟨N,by omega,by simp,_,rfl,S0,KW0,O1⟩
  case round=>
   clear S0 KW0 O1;obtain⟨j,hj,rfl,t,rfl,HT,KW,O1⟩:=hrel;have y1:=O1.out.c1;by_cases h:0<j
   ·obtain⟨i,rfl⟩:∃ i,j=i+1:=⟨j - 1,by omega⟩;have hiN:i<N:=by omega
    have e0:((i+1:Nat):Int) - 1=(i:Int):=by omega
    rw [e0];have ix:=fun W=>ixI HS.out i c hiN W
    have y2:=(HS.out.mono KW.out jl).cell i hiN;simp only [ic,dI] at y2;obtain⟨m,hm⟩:∃ m,m=dg x i:=⟨_,rfl⟩;have hml:m<10000:=by rw [hm];exact dg_lt x i
    have HM:=jj hm;rw [<-hm] at y2
    obtain⟨t4,ht4,hcv⟩:=conv_bts (wr.alloc (.cells #[.int .u8 (48+(m:Int) / 1000),.int .u8 (48+(m:Int) / 100 % 10),.int .u8 (48+(m:Int) / 10 % 10),.int .u8 (48+(m:Int) % 10)] 5)) wr.heap.size 4 m 4 (fun i hi=>by
     match i,hi with
     | 0,_=>simp [go_sem,d10];omega
     | 1,_=>simp [go_sem,d10]
     | 2,_=>simp [go_sem,d10]
     | 3,_=>simp [go_sem,d10])
    have hsz:¬ (9223372036854775807<t.size+t4.size):=by rw [HT.out.1,ht4.1];omega
    have HT4:=jj ht4;have KW1:=jj (KW.out.alloc KW.out.size (.cells #[.int .u8 (48+(m:Int) / 1000),.int .u8 (48+(m:Int) / 100 % 10),.int .u8 (48+(m:Int) / 10 % 10),.int .u8 (48+(m:Int) % 10)] 5));have O2:=jj (O1.out.alloc (.cells #[.int .u8 (48+(m:Int) / 1000),.int .u8 (48+(m:Int) / 100 % 10),.int .u8 (48+(m:Int) / 10 % 10),.int .u8 (48+(m:Int) % 10)] 5));clear h e0 hm ht4;go_wp2;go_roundw
    case rel=>exact⟨i,by omega,by go_num,_,rfl,jj (figB_step (by omega) HT.out (by rw [<-HM.out];exact HT4.out)),KW1,O2⟩
    case measure=>(simp [intOf] <;> omega)
   ·obtain rfl:j=0:=by omega
    have HT2:Hid (Bts t (4*N) (fun i=>48+d10 x (4*N - 1 - i))):=jj (HT.out.congr (fun k _=>by unfold figB;simp))
    have HLT:Hid (x<10 ^ (4*N)):=jj (by
     have:=lt_pow_nd x;rw [<-HN.out] at this;rw [Nat.pow_mul];exact this)
    have e0:decide ((0:Int)<=((0:Nat):Int) - 1)=false:=by decide
    clear HT h y1 O1;go_wp2;go_loopw [3] (fun v3 wr'=>∃ t L,v3 = .string t/\Hid (Bts t L (fun i=>48+d10 x (L - 1 - i)))/\Hid (x<10 ^ L)/\L<=4*N/\wr'=wr) (fun v3 _=>match v3 with | .string t=>t.size | _=>0)
    case atStart=>exact⟨t,4*N,rfl,HT2,HLT,by omega,rfl⟩
    case round=>
     clear HT2 HLT;obtain⟨t,L,rfl,HT2,HLT,hLN,rfl⟩:=hrel
     have hL1:1<=L:=by
      rcases Nat.eq_zero_or_pos L with e | e
      ·have h1:=HLT.out;have h2:=HX.out;rw [e] at h1;simp at h1;omega
      ·exact e
     have p0:0<t.size:=by rw [HT2.out.1];exact hL1
     have i0:(0:Int)<(t.size:Int):=by omega
     have hx0:t[0].toNat=48+d10 x (L - 1):=HT2.out.2 0 p0;by_cases hz:d10 x (L - 1)=0
     ·have x0:t[0].toNat=48:=by rw [hx0,hz]
      have e3:(((48:Nat):Int) == 48)=true:=by decide
      have HC:Hid (Bts (t.extract 1 t.size) (L - 1) (fun i=>48+d10 x (L - 1 - 1 - i))):=jj (by
       have:=bts_cut (g:=fun i=>48+d10 x (L - 1 - 1 - i)) HT2.out 1 t.size p0 (by rw [HT2.out.1];exact Nat.le_refl _) (fun k hk=>by
        show 48+d10 x (L - 1 - (1+k))=48+d10 x (L - 1 - 1 - k);rw [Nat.sub_sub (L - 1) 1 k])
       rw [HT2.out.1] at this ⊢;exact this)
      have HL2:Hid (x<10 ^ (L - 1)):=jj (by
       have h1:=HLT.out;unfold d10 at hz;have h2:10 ^ L=10 ^ (L - 1)*10:=by rw [<-Nat.pow_succ];congr 1;omega
       rw [h2] at h1;have h3:=Nat.div_lt_of_lt_mul h1;rw [Nat.mod_eq_of_lt h3] at hz;have hp:0<10 ^ (L - 1):=Nat.pow_pos (by omega);exact Nat.lt_of_not_le (fun hle=>by have:=Nat.div_pos hle hp;omega))
      have HSZ:=jj HT2.out.1;have s1:(1:Int)<=(t.size:Int):=by omega
      clear hx0 hz;go_wp2;go_roundw
      case rel=>exact⟨_,L - 1,rfl,HC,HL2,by omega,by first | rfl | trivial⟩
      case measure=>simp only;rw [HC.out.1,HSZ.out];omega
     ·obtain⟨V,hV⟩:∃ V,V=48+d10 x (L - 1):=⟨_,rfl⟩;have x0:t[0].toNat=V:=by rw [hx0,hV]
      have e3:((V:Int) == 48)=false:=by simp;omega
      have e4:¬ V=48:=by omega
      have HF:Hid (IsTxt t x):=jj (bts_txt HT2.out ⟨HLT.out,fun e=>by have:=HX.out;omega,fun _=>⟨hL1,by
       refine Nat.le_of_not_lt (fun hlt=>hz ?_);unfold d10;rw [Nat.div_eq_of_lt hlt]⟩⟩)
      clear hx0 hz hV;go_wp2;go_ret;exact⟨t,rfl,HF.out,KW.out⟩
end Go.Proofs.YtgmopcncbpdniaaGreat
