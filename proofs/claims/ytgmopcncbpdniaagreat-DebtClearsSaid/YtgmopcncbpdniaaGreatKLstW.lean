import Derived.Test.YtgmopcncbpdniaaGreatKShelf
import Derived.Test.YtgmopcncbpdniaaGreatKLst
import Derived.Test.YtgmopcncbpdniaaGreatKPlainLs
import Derived.Test.YtgmopcncbpdniaaGreatKPlainN
import Derived.Test.YtgmopcncbpdniaaGreatKGrp2
import Derived.Deep.DeepCutAuto
set_option linter.unusedVariables false
set_option linter.unusedSimpArgs false
namespace Go.Proofs.YtgmopcncbpdniaaGreat
open Go.RowKit
attribute [local go_sem ↓] Go.wp_at_zero Go.wp_at_succ
theorem eqlR_some (x:Addr) (l c:Nat) (W:World):(binOp .eql 73 (.slice (some x) l c) (.slice none 0 0)).run Tryz.prog W = .ok (.bool false) W:=by
 simp only [binOp];simp [run_equal_slice_nil W 73 92 (some x) l c Tryz.underlying73]
theorem eqlR_none (W:World):(binOp .eql 73 (.slice none 0 0) (.slice none 0 0)).run Tryz.prog W = .ok (.bool true) W:=by
 simp only [binOp];simp [run_equal_slice_nil W 73 92 none 0 0 Tryz.underlying73]
theorem bit_of (s i:Nat):(bits .and .i64 ((s:Int) / 2 ^ i) 1 == 1)=s.testBit i:=by
 have hdiv:(s:Int) / 2 ^ i=((s / 2 ^ i:Nat):Int):=by simp
 rw [i64_and1,hdiv,Nat.testBit_eq_decide_div_mod_eq];by_cases h:s / 2 ^ i % 2=1
 ·rw [decide_eq_true h];have:(((s / 2 ^ i:Nat):Int) % 2)=1:=by omega
  rw [this];rfl
 ·rw [decide_eq_false h];have:(((s / 2 ^ i:Nat):Int) % 2)=0:=by omega
  rw [this];rfl
def BS (n:Nat) (cash:Nat->Int) (d:Nat->Nat->Int) (w:World) (v:Value) (LB s:Nat):Prop:=
 ∃ (sb:Bool) (ab:Option Addr) (nb cb:Nat) (bb:Option Addr) (lb kb:Nat) (sv:Rat),Own4 w LB (.bool sb) (.slice ab nb cb) (.bool false) (.slice bb lb kb)/\RatIs w (.agg #[.bool sb,.slice ab nb cb,.bool false,.slice bb lb kb]) sv 60000/\
  ((v = .slice none 0 0/\NoneF n cash d s)\/∃ PB x,v = .slice (some ⟨PB,0,none⟩) n n/\RatRow w PB n x 200/\BestF n cash d s x/\sv=sumQ x n)
theorem BS.below {n:Nat} {cash:Nat->Int} {d:Nat->Nat->Int} {w w':World} {v:Value} {LB s:Nat} (h:BS n cash d w v LB s) (hb:Below w.heap.size w w'):BS n cash d w' v LB s:=by
 obtain⟨sb,ab,nb,cb,bb,lb,kb,sv,h1,h2,h3⟩:=h;refine⟨sb,ab,nb,cb,bb,lb,kb,sv,h1.below hb h1.lt,h2.mono hb jl,?_⟩;rcases h3 with h | ⟨PB,x,e,hr,hf,hs⟩
 ·exact .inl h
 ·exact .inr ⟨PB,x,e,hr.below hb jl,hf,hs⟩
theorem BS.skip {n:Nat} {cash:Nat->Int} {d:Nat->Nat->Int} {w:World} {v:Value} {LB s:Nat} (h:BS n cash d w v LB s) (hn:∀ x,¬ LsF n cash d (codeB n d s) x):BS n cash d w v LB (s+1):=by
 obtain⟨sb,ab,nb,cb,bb,lb,kb,sv,h1,h2,h3⟩:=h;refine⟨sb,ab,nb,cb,bb,lb,kb,sv,h1,h2,?_⟩;rcases h3 with ⟨e,h⟩ | ⟨PB,x,e,hr,hf,hs⟩
 ·exact .inl ⟨e,h.skip hn⟩
 ·exact .inr ⟨PB,x,e,hr,hf.skip hn,hs⟩
theorem wrap_pow (n:Nat) (h:2 ^ n<=256):wrap64 (2 ^ n)=((2 ^ n:Nat):Int):=by
 have e:(2:Int) ^ n=((2 ^ n:Nat):Int):=by simp
 rw [e];generalize 2 ^ n=N at h;exact IntWalk.wrap64_in _ ⟨by omega,by omega⟩
theorem sum_bound (k:Nat) (hk:k<=8) (B:Nat) (h:B+1=2 ^ k*201):200<=B/\B<=60000/\2*B+1+1=2 ^ (k+1)*201:=by
 have h1:2 ^ k<=2 ^ 8:=Nat.pow_le_pow_right (by omega) hk;have h2:1<=2 ^ k:=Nat.one_le_two_pow;have h3:=Nat.mul_le_mul_right 201 h1;have h4:=Nat.mul_le_mul_right 201 h2;refine⟨by omega,by omega,?_⟩;rw [Nat.pow_succ,Nat.mul_comm (2 ^ k) 2,Nat.mul_assoc];omega
set_option maxHeartbeats 16000000 in
set_option maxRecDepth 100000 in
theorem Least_any (vc vd:Value) (n:Nat) (cash:Nat->Int) (m:Nat->Nat) (d:Nat->Nat->Int) (w:World) (hc:Ints w vc n cash) (hm:Mat w vd n m d) (hD:Debts n m d) (hC:∀ i,i<n->0<=cash i/\cash i<=1000) (hd:∀ i j,0<=d i j) :
  Calls Tryz.prog 30 #[vc,vd] w fun e w'=>∃ va vk ss x,e = .returned (.tuple #[.slice va n vk,.int .i64 0])/\TxtsOf n x ss/\(∀ j,j<n->MaxD (x j).num.natAbs/\MaxD (x j).den)/\(ClrQ n (cashQ cash) (totQ n d) (shQ n d) x/\∀ y,ClrQ n (cashQ cash) (totQ n d) (shQ n d) y->∀ i,i<n->x i<=y i)/\Sl w' (.slice va n vk) n (fun j=>.string (ss j))/\Below w.heap.size w w':=by
 have HC:=jj hc;have HDM:=jj hm;have HR:=jj (rng_of hD hC hd);have h0:0<n:=hD.1;have h8:n<=8:=hD.2.1;have HD:=jj hd;have HDB:=jj hD;have HCB:=jj hC;have hp2:2 ^ n<=256:=Nat.pow_le_pow_right (n:=2) (by omega) h8;obtain⟨ca,cb,co,cc,rfl,hcs⟩:=hc;obtain⟨da,db,d_o,dc,ra,rb,ro,rc,rfl,hdm⟩:=hm;clear hcs hdm hD hC hd;obtain⟨N,hN⟩:∃ N,N=2 ^ n:=⟨_,rfl⟩;have hw2:=wrap_pow n hp2;rw [<-hN] at hw2 hp2;have HN:=jj hN;clear hN;go_enter Tryz.func30,Tryz.ntmps30
 go_wp2_with (first
  | (go_at_call 38;(with_reducible refine (read_ok _ _ n cash m d _ HC.out HDM.out HDB.out HCB.out).mono ?_);rintro e w1 ⟨b,vt,rfl,hm,hb1⟩;have HM:=jj hm;have KW:=jj hb1;clear hm hb1)
  | (go_at_call 59;(with_reducible refine (rat_whole 0 (by omega) (by omega) _).mono ?_);rintro e w2 ⟨r2,rfl,hr2,hb2⟩;obtain⟨s2,a2,n2,c2,b2,l2,k2,rfl,Q2⟩:=hr2.shape;have HM:=jj (HM.out.mono hb2 jl);have KW:=jj (jb KW.out hb2);clear hr2 hb2;have c0:=HM.out.c0;have hlt:=HM.out.lt))
 obtain⟨ta,tb,t_o,tc,hvt,hts⟩:=HM.out.htot;subst hvt;have HTS:=jj hts;have HLB:=jj (own4_new w2 w2.heap.size rfl (.bool s2) (.slice a2 n2 c2) (.bool false) (.slice b2 l2 k2) 92);have KL0:=jj (boxes1 w2 (.cells #[.bool s2,.slice a2 n2 c2,.bool false,.slice b2 l2 k2] 92));have Q2:=jj (Q2.out.mono KL0.out jl);obtain⟨LB,hLB⟩:∃ LB,LB=w2.heap.size:=⟨_,rfl⟩;rw [<-hLB] at HLB KL0 ⊢;have HLE:=jj hLB;clear c0 hlt hLB hts;generalize w2.alloc (.cells #[.bool s2,.slice a2 n2 c2,.bool false,.slice b2 l2 k2] 92)=wb at *
 have BS0:Hid (BS n cash d wb (.slice none 0 0) LB 0):=jj ⟨_,_,_,_,_,_,_,_,HLB.out,Q2.out.le (by omega),.inl ⟨rfl,fun t ht=>by omega⟩⟩;clear HLB Q2;rw [hw2];clear hw2;go_loopw [8,31] (fun v8 v31 wr=>∃ s:Nat,s<=N/\v31 = .int .i64 (s:Nat)/\Hid (BS n cash d wr v8 LB s)/\Hid (Below LB w2 wr)) (fun _ v31 _=>N - (intOf v31).toNat)
 case atStart=>exact⟨0,by omega,rfl,BS0,KL0⟩
 case round=>
  clear BS0 KL0;obtain⟨s,hs,rfl,BB,KL⟩:=hrel;obtain⟨wq,rfl⟩:∃ wq:World,wq=wr:=⟨_,rfl⟩;by_cases h:s<N
  ·have e1:decide ((s:Int)<(N:Int))=true:=by simpa using h
   have e1n:decide (s<N)=true:=by simpa using h
   have HMr:=jj (HM.out.mono KL.out (Nat.le_of_eq HLE.out.symm));have HTr:=jj (HTS.out.mono KL.out (Nat.le_of_eq HLE.out.symm));have c0:=HMr.out.c0;have hlt:=HMr.out.lt;have hmk:=mkBn n (by omega);have OA0:=jj ((World.rowIs_made wq (.bool false) n 4).congr (g:=bF (fun j=>decide (j<0) && codeB n d s j)) (fun i hi=>by simp [bF]));have VA0:=jj (boxes1 wq (.cells (madeCells #[.bool false] n) 4));go_wp2;clear c0 hmk hlt;obtain⟨ab,hab⟩:∃ ab,ab=wq.heap.size:=⟨_,rfl⟩;rw [<-hab] at OA0 ⊢;have HAB:=jj hab;clear hab;go_loopw [41] (fun v41 wi=>∃ i:Nat,i<=n/\v41 = .int .i64 (i:Nat)/\Hid (wi.rowIs ab 4 n (bF (fun j=>decide (j<i) && codeB n d s j)))/\Hid (Below wq.heap.size wq wi)) (fun v41 _=>n - (intOf v41).toNat)
   case atStart=>exact⟨0,by omega,rfl,OA0,VA0⟩
   case round=>
    clear OA0 VA0;obtain⟨i,hi,rfl,OA,VA⟩:=hrel;by_cases h2:i<n
    ·have e2:decide ((i:Int)<(n:Int))=true:=by simpa using h2
     have e2n:decide (i<n)=true:=by simpa using h2
     have hi64:i<64:=by omega
     have hbit:=bit_of s i;have ixa:=fun W=>ixB ab n n i h2 W
     have ca:=OA.out.cell h2;have ff:=OA.out.frozen i;simp only [bF] at ca;have c3:=bel1 VA.out HMr.out.c3 HMr.out.lt;have ixt:=fun W=>ixI HTS.out i tc h2 W
     obtain⟨Ti,hTi⟩:∃ Ti,Ti=sumF (d i) n:=⟨_,rfl⟩;have yt:=(HTr.out.mono VA.out jl).cell i h2;simp only [ic] at yt;rw [<-hTi] at yt;have HTi:=jj hTi;clear hTi;rcases hb:s.testBit i with _ | _
     ·rw [hb] at hbit;by_cases hz:Ti=0
      ·have d3:(Ti == 0)=true:=by simpa using hz
       have HC2:Hid (codeB n d s i=true):=jj (by unfold codeB;rw [hb,<-HTi.out,decide_eq_true hz];rfl);clear hz;go_wp2;go_roundw
       case rel=>
        refine⟨i+1,by omega,by go_num,jj ((OA.out.set i _).congr (fun j hj=>?_)),jj (VA.out.setCell (Nat.le_of_eq HAB.out.symm) _)⟩;unfold bF;by_cases e:j=i
        ·subst e;simp [HC2.out]
        ·rw [if_neg e];by_cases e3:j<i
         ·simp [e3,show j<i+1 by omega]
         ·simp [e3,show ¬ j<i+1 by omega]
       case measure=>simp [intOf];omega
      ·have d3:(Ti == 0)=false:=by simpa using hz
       have HC2:Hid (codeB n d s i=false):=jj (by unfold codeB;rw [hb,<-HTi.out,decide_eq_false hz];rfl);clear hz;go_wp2;go_roundw
       case rel=>
        refine⟨i+1,by omega,by go_num,jj ((OA.out.set i _).congr (fun j hj=>?_)),jj (VA.out.setCell (Nat.le_of_eq HAB.out.symm) _)⟩;unfold bF;by_cases e:j=i
        ·subst e;simp [HC2.out]
        ·rw [if_neg e];by_cases e3:j<i
         ·simp [e3,show j<i+1 by omega]
         ·simp [e3,show ¬ j<i+1 by omega]
       case measure=>simp [intOf];omega
     ·rw [hb] at hbit;have HC2:Hid (codeB n d s i=true):=jj (by unfold codeB;rw [hb];rfl);go_wp2;go_roundw
      case rel=>
       refine⟨i+1,by omega,by go_num,jj ((OA.out.set i _).congr (fun j hj=>?_)),jj (VA.out.setCell (Nat.le_of_eq HAB.out.symm) _)⟩;unfold bF;by_cases e:j=i
       ·subst e;simp [HC2.out]
       ·rw [if_neg e];by_cases e3:j<i
        ·simp [e3,show j<i+1 by omega]
        ·simp [e3,show ¬ j<i+1 by omega]
      case measure=>simp [intOf];omega
    ·obtain rfl:n=i:=by omega
     have e2:decide ((n:Int)<(n:Int))=false:=by simp
     have OA:Hid (wr.rowIs ab 4 n (bF (codeB n d s))):=jj (OA.out.congr (fun j hj=>by simp [bF,hj]));have BB:=jj (BB.out.below VA.out);have HMi:=jj (HMr.out.mono VA.out jl);have KLi:Hid (Below LB w2 wr):=jj (KL.out.trans (VA.out.mono (by have:=HLE.out;have:=KL.out.size;omega)));have HA0:Hid (∀ k,k<n->sumF (d k) n=0->codeB n d s k=true):=jj (fun k _ e=>by unfold codeB;rw [decide_eq_true e,Bool.or_true]);clear VA KL HMr HTr;go_wp2_with fail;refine (least_any b n cash d _ _ _ (codeB n d s) ab n _ HMi.out h0 h8 HR.out HD.out (bls_of OA.out) HA0.out).mono ?_;rintro e w5 ⟨⟨PB,y,rfl,hpr,hls,hpb⟩ | ⟨rfl,hno⟩,hb5⟩
     ·have heq:=eqlR_some ⟨PB,0,none⟩ n n;have HPL:Hid (LB≠PB):=jj (by obtain⟨_,_,_,_,_,_,_,_,o,_⟩:=BB.out;have:=o.lt;omega);have PR:=jj hpr;have LS:=jj hls;have BB:=jj (BB.out.below hb5);have KLi:=jj (KLi.out.trans (hb5.mono (by have:=HLE.out;have:=KLi.out.size;omega)));clear hpr hls hb5 OA HMi
      go_wp2_with (first
       | (go_at_call 59;(with_reducible refine (rat_whole 0 (by omega) (by omega) _).mono ?_);rintro e w6 ⟨r6,rfl,hr6,hb6⟩;obtain⟨s6,a6,n6,c6,b6,l6,k6,rfl,Q6⟩:=hr6.shape;have PR:=jj (PR.out.below hb6 jl);have BB:=jj (BB.out.below hb6);have KLi:=jj (KLi.out.trans (hb6.mono (by have:=HLE.out;have:=KLi.out.size;omega)));clear hr6 hb6))
      have OS0:=jj (own4_new w6 w6.heap.size rfl (.bool s6) (.slice a6 n6 c6) (.bool false) (.slice b6 l6 k6) 92);have VS0:=jj (boxes1 w6 (.cells #[.bool s6,.slice a6 n6 c6,.bool false,.slice b6 l6 k6] 92));have Q6:=jj (Q6.out.mono VS0.out jl);obtain⟨SB,hSB⟩:∃ SB,SB=w6.heap.size:=⟨_,rfl⟩;rw [<-hSB] at OS0 ⊢;have HSB:=jj hSB;have HSL:Hid (LB≠SB):=jj (by obtain⟨_,_,_,_,_,_,_,_,o,_⟩:=BB.out;have:=o.lt;omega);clear hSB heq;generalize w6.alloc (.cells #[.bool s6,.slice a6 n6 c6,.bool false,.slice b6 l6 k6] 92)=w7 at *
      go_loopw [71] (fun v71 wi=>∃ k:Nat,k<=n/\v71 = .int .i64 (k:Nat)/\∃ s7 a7 n7 c7 b7 l7 k7 K,Hid (Own4 wi SB (.bool s7) (.slice a7 n7 c7) (.bool false) (.slice b7 l7 k7))/\Hid (RatIs wi (.agg #[.bool s7,.slice a7 n7 c7,.bool false,.slice b7 l7 k7]) (sumQ y k) K)/\Hid (K+1=2 ^ k*201)/\Hid (Below w6.heap.size w6 wi)) (fun v71 _=>n - (intOf v71).toNat)
      case atStart=>exact⟨0,by omega,rfl,s6,a6,n6,c6,b6,l6,k6,200,OS0,jj (Q6.out.le (by omega)),jj (by omega),VS0⟩
      case round=>
       clear OS0 VS0 Q6;obtain⟨k,hk,rfl,s7,a7,n7,c7,b7,l7,k7,K,OS,QS,HK,VS⟩:=hrel;by_cases h3:k<n
       ·have e3:decide ((k:Int)<(n:Int))=true:=by simpa using h3
        have e3n:decide (k<n)=true:=by simpa using h3
        have ixp:=fun W=>rowIx PB n n k h3 W
        obtain⟨sx,ax,nx,cx,ax2,nx2,cx2,PX0,KX0⟩:=PR.out.cell k h3;have KX:=jj ((KX0 trivial).mono VS.out jl);obtain⟨p0,p1,p2,p3,-⟩:=PX0.below VS.out PX0.lt;have KB:=jj (boxes1 wr (.cells #[.bool sx,.slice ax nx cx,.bool false,.slice ax2 nx2 cx2] 92));have HX0:=jj (own4_new wr wr.heap.size rfl (.bool sx) (.slice ax nx cx) (.bool false) (.slice ax2 nx2 cx2) 92);have OX:=OS.out;have HSZ:=jj OS.out.lt;clear PX0 KX0;obtain⟨hk1,hk2,hk3⟩:=sum_bound k (by omega) K HK.out;have HK3:=jj hk3;have HFR:Hid (w6.heap.size<=SB):=jj (Nat.le_of_eq HSB.out.symm);have OS2:=jj (OX.below KB.out HSZ.out);have QS2:=jj (QS.out.mono KB.out jl);have KX2:=jj (KX.out.mono KB.out jl);have VS2:=jj (jb VS.out KB.out);clear hk3 OX;obtain⟨z0,z1,z2,z3,zf,zl⟩:=OS2.out;obtain⟨x0,x1,x2,x3,xf,xl⟩:=HX0.out
        go_wp2_with (first
         | (go_at_call 61;go_loud ((with_reducible refine (rat_add _ _ (sumQ y k) (y k) K _ QS2.out (KX2.out.le hk1) (by omega) (by omega)).mono ?_);rintro e w9 ⟨r9,rfl,hr9,hb9⟩;obtain⟨s9,a9,n9,c9,b9,l9,k9,rfl,Q9⟩:=hr9.shape;clear hr9;have VS2:=jj (jb VS2.out hb9);have OS2:=jj (OS2.out.below hb9 OS2.out.lt);clear z0 z1 z2 z3 zf zl x0 x1 x2 x3 xf xl hb9;obtain⟨z0,z1,z2,z3,zf,zl⟩:=OS2.out)))
        go_roundw
        case rel=>exact⟨k+1,by omega,by go_num,s9,a9,n9,c9,b9,l9,k9,2*K+1,jj (OS2.out.anew (.bool s9) (.slice a9 n9 c9) (.bool false) (.slice b9 l9 k9)),jj (Q9.out.into' (.bool s9) (.slice a9 n9 c9) (.bool false) (.slice b9 l9 k9) OS2.out),HK3,jj (below_set4q VS2.out HFR.out (.bool s9) (.slice a9 n9 c9) (.bool false) (.slice b9 l9 k9))⟩
        case measure=>simp [intOf];omega
       ·obtain rfl:n=k:=by omega
        have e3:decide ((n:Int)<(n:Int))=false:=by simp
        obtain⟨hk1,hk2,-⟩:=sum_bound n h8 K HK.out;have PR:=jj (PR.out.below VS.out jl);have BB:=jj (BB.out.below VS.out);have KLi:=jj (KLi.out.trans (VS.out.mono (by have:=HLE.out;have:=KLi.out.size;omega)));clear VS;obtain⟨z0,z1,z2,z3,zf,zl⟩:=OS.out;obtain⟨sb,ab',nb,cb',bb,lb,kb,sv,O1,R1,hv⟩:=BB.out;have OL:=jj O1;have RL:=jj R1;clear O1 R1 BB;rcases hv with ⟨hv1,hnone⟩ | ⟨PB0,x,hv1,hr0,hf0,hs0⟩
        ·subst hv1;have heq:=eqlR_none;have HBF:=jj (hnone.first HR.out HD.out LS.out);obtain⟨y0,y1,y2,y3,yf,yl⟩:=OL.out;clear hnone;go_wp2
         go_region
         all_goals
          go_wp2;go_roundw
          case rel=>exact⟨s+1,by omega,by go_num,jj ⟨s7,a7,n7,c7,b7,l7,k7,sumQ y n,OL.out.drew.anew (.bool s7) (.slice a7 n7 c7) (.bool false) (.slice b7 l7 k7),(QS.out.le hk2).drew.into' (.bool s7) (.slice a7 n7 c7) (.bool false) (.slice b7 l7 k7) OL.out.drew,.inr ⟨PB,y,rfl,(PR.out.drew).far4 (.bool s7) (.slice a7 n7 c7) (.bool false) (.slice b7 l7 k7) (own4_rd OL.out.drew) HPL.out,HBF.out,rfl⟩⟩,jj (below_set4q KLi.out.drew jl (.bool s7) (.slice a7 n7 c7) (.bool false) (.slice b7 l7 k7))⟩
          case measure=>simp [intOf];omega
        ·subst hv1;have heq:=eqlR_some ⟨PB0,0,none⟩ n n;have R0:=jj hr0;obtain⟨y0,y1,y2,y3,yf,yl⟩:=OL.out;clear hr0;by_cases hlt:sumQ y n<sv
         ·have e4:decide (cmpQ (sumQ y n) sv<0)=true:=by rw [cmpQ_lt];simpa using hlt
          have e5:cmpQ (sumQ y n) sv<0:=by simpa using e4
          have HBF:=jj (hf0.better HR.out HD.out LS.out (by rw [<-hs0];exact hlt));clear hf0 hs0 hlt
          go_wp2_with (first
           | (go_at_call 62;(with_reducible refine (rat_cmp_val _ _ (sumQ y n) sv 60000 _ _ (QS.out.le hk2) RL.out (by omega) rfl).mono ?_);rintro e w9 ⟨rfl,hb9⟩;have PR:=jj (PR.out.below hb9 jl);have OS:=jj (OS.out.below hb9 OS.out.lt);have OL:=jj (OL.out.below hb9 OL.out.lt);have QS:=jj (QS.out.mono hb9 jl);have KLi:=jj (KLi.out.trans (hb9.mono (by have:=HLE.out;have:=KLi.out.size;omega)));clear z0 z1 z2 z3 zf zl y0 y1 y2 y3 yf yl hb9;obtain⟨z0,z1,z2,z3,zf,zl⟩:=OS.out;obtain⟨y0,y1,y2,y3,yf,yl⟩:=OL.out))
          go_region
          all_goals
           go_wp2;go_roundw
           case rel=>exact⟨s+1,by omega,by go_num,jj ⟨s7,a7,n7,c7,b7,l7,k7,sumQ y n,OL.out.drew.anew (.bool s7) (.slice a7 n7 c7) (.bool false) (.slice b7 l7 k7),(QS.out.le hk2).drew.into' (.bool s7) (.slice a7 n7 c7) (.bool false) (.slice b7 l7 k7) OL.out.drew,.inr ⟨PB,y,rfl,(PR.out.drew).far4 (.bool s7) (.slice a7 n7 c7) (.bool false) (.slice b7 l7 k7) (own4_rd OL.out.drew) HPL.out,HBF.out,rfl⟩⟩,jj (below_set4q KLi.out.drew jl (.bool s7) (.slice a7 n7 c7) (.bool false) (.slice b7 l7 k7))⟩
           case measure=>simp [intOf];omega
         ·have e4:decide (cmpQ (sumQ y n) sv<0)=false:=by rw [cmpQ_lt];simpa using hlt
          have e5:0<=cmpQ (sumQ y n) sv:=by simpa using e4
          have HBF:=jj (hf0.keep HR.out HD.out LS.out (by rw [<-hs0];exact hlt));have HSV:=jj hs0;clear hf0 hs0 hlt
          go_wp2_with (first
           | (go_at_call 62;(with_reducible refine (rat_cmp_val _ _ (sumQ y n) sv 60000 _ _ (QS.out.le hk2) RL.out (by omega) rfl).mono ?_);rintro e w9 ⟨rfl,hb9⟩;have OL:=jj (OL.out.below hb9 OL.out.lt);have RL:=jj (RL.out.mono hb9 jl);have R0:=jj (R0.out.below hb9 jl);have KLi:=jj (KLi.out.trans (hb9.mono (by have:=HLE.out;have:=KLi.out.size;omega)));clear hb9))
          go_roundw
          case rel=>exact⟨s+1,by omega,by go_num,jj ⟨sb,ab',nb,cb',bb,lb,kb,sv,OL.out,RL.out,.inr ⟨PB0,x,rfl,R0.out,HBF.out,HSV.out⟩⟩,KLi⟩
          case measure=>simp [intOf];omega
     ·have heq:=eqlR_none;have BB:=jj ((BB.out.below hb5).skip hno);have KLi:=jj (KLi.out.trans (hb5.mono (by have:=HLE.out;have:=KLi.out.size;omega)));clear hno hb5;go_wp2;go_roundw
      case rel=>exact⟨s+1,by omega,by go_num,BB,KLi⟩
      case measure=>simp [intOf];omega
  ·obtain rfl:N=s:=by omega
   have e1:decide ((N:Int)<(N:Int))=false:=by simp
   obtain⟨_,_,_,_,_,_,_,_,-,-,⟨rfl,hn⟩ | ⟨PB,x,rfl,hr,hf,-⟩⟩:=BB.out
   ·exact (NoneF.end_ HR.out HD.out (by rw [<-HN.out];exact hn)).elim
   ·have HE:=jj (BestF.end_ HR.out HD.out (by rw [<-HN.out];exact hf));obtain⟨t,ht⟩:=hf.ls
    have HMX:Hid (∀ j,j<n->MaxD (x j).num.natAbs/\MaxD (x j).den):=jj (fun j hj=>by
     have h:=ht.small HR.out h8 HD.out j hj;exact⟨⟨Nat.lt_of_le_of_lt h.1 bd_ten⟩,⟨Nat.lt_of_le_of_lt h.2 bd_ten⟩⟩)
    have PR:=jj hr;have KW:=jj (KW.out.trans (KL.out.mono (by have:=HLE.out;have:=KW.out.size;omega)));clear hf ht hr
    go_wp2_with (first
     | (go_at_call 40;(with_reducible refine (nums_any PB n n x 200 _ PR.out.rats (by omega) (by omega) HMX.out).mono ?_);rintro e w3 ⟨va,vk,ss,rfl,htx,hv,hb3⟩;have HTX:=jj htx;have HV:=jj hv;have KW:=jj (jb KW.out hb3);clear hv hb3 htx))
    go_ret2;exact⟨va,vk,ss,x,rfl,HTX.out,HMX.out,HE.out,Sl.of_own HV.out (fun i hi=>strL_get ss n i hi),KW.out⟩
end Go.Proofs.YtgmopcncbpdniaaGreat
