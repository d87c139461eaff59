/- DebtBetween: for every input the law returns true, and each argument reads afterwards as it read before. No conditions. -/
import Derived.Test.YtgmopcncbpdniaaGreatILst
import Derived.Test.YtgmopcncbpdniaaGreatIPlainLs
import Derived.Test.YtgmopcncbpdniaaGreatIClr
import Derived.Test.YtgmopcncbpdniaaGreatIGrp3
import Derived.Deep.DeepCutAuto
import Derived.Test.YtgmopcncbpdniaaGreatIMade
import Derived.Test.YtgmopcncbpdniaaGreatITakesE
import Derived.Test.YtgmopcncbpdniaaGreatIRKeep
import Derived.Test.YtgmopcncbpdniaaGreatIDClr
import Derived.Test.YtgmopcncbpdniaaGreatRows
import Derived.Test.YtgmopcncbpdniaaGreatITakes
import Derived.JoinedOf
set_option linter.unusedVariables false
set_option linter.unusedSimpArgs false
namespace Go.Proofs.YtgmopcncbpdniaaGreat
open Go.RowKit
attribute [local go_sem ↓] Go.wp_at_zero Go.wp_at_succ
theorem eqlR_some (x:Addr) (l c:Nat) (W:World):(binOp .eql 73 (.slice (some x) l c) (.slice none 0 0)).run Tryz.prog W = .ok (.bool false) W:=by
 simp only [binOp]
 simp [run_equal_slice_nil W 73 92 (some x) l c Tryz.underlying73]
theorem eqlR_none (W:World):(binOp .eql 73 (.slice none 0 0) (.slice none 0 0)).run Tryz.prog W = .ok (.bool true) W:=by
 simp only [binOp]
 simp [run_equal_slice_nil W 73 92 none 0 0 Tryz.underlying73]
theorem bit_of (s i:Nat):(bits .and .i64 ((s:Int) / 2 ^ i) 1 == 1)=s.testBit i:=by
 have hdiv:(s:Int) / 2 ^ i=((s / 2 ^ i:Nat):Int):=by simp
 rw [i64_and1,hdiv,Nat.testBit_eq_decide_div_mod_eq]
 by_cases h:s / 2 ^ i % 2=1
 ·rw [decide_eq_true h]
  have:(((s / 2 ^ i:Nat):Int) % 2)=1:=by omega
  rw [this];rfl
 ·rw [decide_eq_false h]
  have:(((s / 2 ^ i:Nat):Int) % 2)=0:=by omega
  rw [this];rfl
def BS (n:Nat) (cash:Nat→Int) (d:Nat→Nat→Int) (w:World) (v:Value) (LB s:Nat):Prop:=
 ∃ (sb:Bool) (ab:Option Addr) (nb cb:Nat) (bb:Option Addr) (lb kb:Nat) (sv:Rat),Own4 w LB (.bool sb) (.slice ab nb cb) (.bool false) (.slice bb lb kb)∧RatIs w (.agg #[.bool sb,.slice ab nb cb,.bool false,.slice bb lb kb]) sv 60000∧
  ((v = .slice none 0 0∧NoneF n cash d s)∨∃ PB x,v = .slice (some ⟨PB,0,none⟩) n n∧RatRow w PB n x 200∧BestF n cash d s x∧sv=sumQ x n)
theorem BS.below {n:Nat} {cash:Nat→Int} {d:Nat→Nat→Int} {w w':World} {v:Value} {LB s:Nat} (h:BS n cash d w v LB s) (hb:Below w.heap.size w w'):BS n cash d w' v LB s:=by
 obtain⟨sb,ab,nb,cb,bb,lb,kb,sv,h1,h2,h3⟩:=h
 refine⟨sb,ab,nb,cb,bb,lb,kb,sv,h1.below hb h1.lt,h2.mono hb (Nat.le_refl _),?_⟩
 rcases h3 with h | ⟨PB,x,e,hr,hf,hs⟩
 ·exact .inl h
 ·exact .inr ⟨PB,x,e,hr.below hb (Nat.le_refl _),hf,hs⟩
theorem BS.skip {n:Nat} {cash:Nat→Int} {d:Nat→Nat→Int} {w:World} {v:Value} {LB s:Nat} (h:BS n cash d w v LB s) (hn:∀ x,¬ LsF n cash d (codeB n d s) x):BS n cash d w v LB (s+1):=by
 obtain⟨sb,ab,nb,cb,bb,lb,kb,sv,h1,h2,h3⟩:=h
 refine⟨sb,ab,nb,cb,bb,lb,kb,sv,h1,h2,?_⟩
 rcases h3 with ⟨e,h⟩ | ⟨PB,x,e,hr,hf,hs⟩
 ·exact .inl ⟨e,h.skip hn⟩
 ·exact .inr ⟨PB,x,e,hr,hf.skip hn,hs⟩
theorem wrap_pow (n:Nat) (h:2 ^ n≤256):wrap64 (2 ^ n)=((2 ^ n:Nat):Int):=by
 have e:(2:Int) ^ n=((2 ^ n:Nat):Int):=by simp
 rw [e]
 generalize 2 ^ n=N at h
 exact IntWalk.wrap64_in _ ⟨by omega,by omega⟩
theorem sum_bound (k:Nat) (hk:k≤8) (B:Nat) (h:B+1=2 ^ k*201):200≤B∧B≤60000∧2*B+1+1=2 ^ (k+1)*201:=by
 have h1:2 ^ k≤2 ^ 8:=Nat.pow_le_pow_right (by omega) hk
 have h2:1≤2 ^ k:=Nat.one_le_two_pow
 have h3:=Nat.mul_le_mul_right 201 h1
 have h4:=Nat.mul_le_mul_right 201 h2
 refine⟨by omega,by omega,?_⟩
 rw [Nat.pow_succ,Nat.mul_comm (2 ^ k) 2,Nat.mul_assoc];omega
set_option maxHeartbeats 16000000 in
set_option maxRecDepth 100000 in
theorem Least_any (vc vd:Value) (n:Nat) (cash:Nat→Int) (m:Nat→Nat) (d:Nat→Nat→Int) (w:World) (hc:Ints w vc n cash) (hm:Mat w vd n m d) (hD:Debts n m d) (hC:∀ i,i<n→0≤cash i∧cash i≤1000) (hd:∀ i j,0≤d i j) :
  Calls Tryz.prog 30 #[vc,vd] w fun e w'=>∃ va vk ss x,e = .returned (.tuple #[.slice va n vk,.int .i64 0])∧TxtsOf n x ss∧(∀ j,j<n→MaxD (x j).num.natAbs∧MaxD (x j).den)∧(ClrQ n (cashQ cash) (totQ n d) (shQ n d) x∧∀ y,ClrQ n (cashQ cash) (totQ n d) (shQ n d) y→∀ i,i<n→x i≤y i)∧Sl w' (.slice va n vk) n (fun j=>.string (ss j))∧Below w.heap.size w w':=by
 have HC:=Lib.hid hc
 have HDM:=Lib.hid hm
 have HR:=Lib.hid (rng_of hD hC hd)
 have h0:0<n:=hD.1
 have h8:n≤8:=hD.2.1
 have HD:=Lib.hid hd
 have HDB:=Lib.hid hD
 have HCB:=Lib.hid hC
 have hp2:2 ^ n≤256:=Nat.pow_le_pow_right (n:=2) (by omega) h8
 obtain⟨ca,cb,co,cc,rfl,hcs⟩:=hc
 obtain⟨da,db,d_o,dc,ra,rb,ro,rc,rfl,hdm⟩:=hm
 clear hcs hdm hD hC hd
 obtain⟨N,hN⟩:∃ N,N=2 ^ n:=⟨_,rfl⟩
 have hw2:=wrap_pow n hp2
 rw [←hN] at hw2 hp2
 have HN:=Lib.hid hN
 clear hN
 go_enter Tryz.func30,Tryz.ntmps30
 go_wp2_with (first
  | (go_at_call 38;(with_reducible refine (read_ok _ _ n cash m d _ HC.out HDM.out HDB.out HCB.out).mono ?_);rintro e w1 ⟨b,vt,rfl,hm,hb1⟩;have HM:=Lib.hid hm;have KW:=Lib.hid hb1;clear hm hb1)
  | (go_at_call 59;(with_reducible refine (rat_whole 0 (by omega) (by omega) _).mono ?_);rintro e w2 ⟨r2,rfl,hr2,hb2⟩;obtain⟨s2,a2,n2,c2,b2,l2,k2,rfl,Q2⟩:=hr2.shape;have HM:=Lib.hid (HM.out.mono hb2 (Nat.le_refl _));have KW:=Lib.hid (KW.out.trans (hb2.mono KW.out.size));clear hr2 hb2;have c0:=HM.out.c0;have hlt:=HM.out.lt))
 obtain⟨ta,tb,t_o,tc,hvt,hts⟩:=HM.out.htot
 subst hvt
 have HTS:=Lib.hid hts
 have HLB:=Lib.hid (own4_new w2 w2.heap.size rfl (.bool s2) (.slice a2 n2 c2) (.bool false) (.slice b2 l2 k2) 92)
 have KL0:=Lib.hid (boxes1 w2 (.cells #[.bool s2,.slice a2 n2 c2,.bool false,.slice b2 l2 k2] 92))
 have Q2:=Lib.hid (Q2.out.mono KL0.out (Nat.le_refl _))
 obtain⟨LB,hLB⟩:∃ LB,LB=w2.heap.size:=⟨_,rfl⟩
 rw [←hLB] at HLB KL0 ⊢
 have HLE:=Lib.hid hLB
 clear c0 hlt hLB hts
 generalize w2.alloc (.cells #[.bool s2,.slice a2 n2 c2,.bool false,.slice b2 l2 k2] 92)=wb at *
 have BS0:Hid (BS n cash d wb (.slice none 0 0) LB 0):=Lib.hid ⟨_,_,_,_,_,_,_,_,HLB.out,Q2.out.le (by omega),.inl ⟨rfl,fun t ht=>by omega⟩⟩
 clear HLB Q2
 rw [hw2]
 clear hw2
 go_loopw [8,31] (fun v8 v31 wr=>∃ s:Nat,s≤N∧v31 = .int .i64 (s:Nat)∧Hid (BS n cash d wr v8 LB s)∧Hid (Below LB w2 wr)) (fun _ v31 _=>N - (intOf v31).toNat)
 case atStart=>exact⟨0,by omega,rfl,BS0,KL0⟩
 case round=>
  clear BS0 KL0
  obtain⟨s,hs,rfl,BB,KL⟩:=hrel
  obtain⟨wq,rfl⟩:∃ wq:World,wq=wr:=⟨_,rfl⟩
  by_cases h:s<N
  ·have e1:decide ((s:Int)<(N:Int))=true:=by simpa using h
   have e1n:decide (s<N)=true:=by simpa using h
   have HMr:=Lib.hid (HM.out.mono KL.out (Nat.le_of_eq HLE.out.symm))
   have HTr:=Lib.hid (HTS.out.mono KL.out (Nat.le_of_eq HLE.out.symm))
   have c0:=HMr.out.c0
   have hlt:=HMr.out.lt
   have hmk:=mkBn n (by omega)
   have OA0:=Lib.hid ((World.rowIs_made wq (.bool false) n 4).congr (g:=bF (fun j=>decide (j<0) && codeB n d s j)) (fun i hi=>by simp [bF]))
   have VA0:=Lib.hid (boxes1 wq (.cells (madeCells #[.bool false] n) 4))
   go_wp2
   clear c0 hmk hlt
   obtain⟨ab,hab⟩:∃ ab,ab=wq.heap.size:=⟨_,rfl⟩
   rw [←hab] at OA0 ⊢
   have HAB:=Lib.hid hab
   clear hab
   go_loopw [41] (fun v41 wi=>∃ i:Nat,i≤n∧v41 = .int .i64 (i:Nat)∧Hid (wi.rowIs ab 4 n (bF (fun j=>decide (j<i) && codeB n d s j)))∧Hid (Below wq.heap.size wq wi)) (fun v41 _=>n - (intOf v41).toNat)
   case atStart=>exact⟨0,by omega,rfl,OA0,VA0⟩
   case round=>
    clear OA0 VA0
    obtain⟨i,hi,rfl,OA,VA⟩:=hrel
    by_cases h2:i<n
    ·have e2:decide ((i:Int)<(n:Int))=true:=by simpa using h2
     have e2n:decide (i<n)=true:=by simpa using h2
     have hi64:i<64:=by omega
     have hbit:=bit_of s i
     have ixa:=fun W=>ixB ab n n i h2 W
     have ca:=OA.out.cell h2
     have ff:=OA.out.frozen i
     simp only [bF] at ca
     have c3:=bel1 VA.out HMr.out.c3 HMr.out.lt
     have ixt:=fun W=>ixI HTS.out i tc h2 W
     obtain⟨Ti,hTi⟩:∃ Ti,Ti=sumF (d i) n:=⟨_,rfl⟩
     have yt:=(HTr.out.mono VA.out (Nat.le_refl _)).cell i h2
     simp only [ic] at yt
     rw [←hTi] at yt
     have HTi:=Lib.hid hTi
     clear hTi
     rcases hb:s.testBit i with _ | _
     ·rw [hb] at hbit
      by_cases hz:Ti=0
      ·have d3:(Ti == 0)=true:=by simpa using hz
       have HC2:Hid (codeB n d s i=true):=Lib.hid (by unfold codeB;rw [hb,←HTi.out,decide_eq_true hz];rfl)
       clear hz
       go_wp2
       go_roundw
       case rel=>
        refine⟨i+1,by omega,by go_num,Lib.hid ((OA.out.set i _).congr (fun j hj=>?_)),Lib.hid (VA.out.setCell (Nat.le_of_eq HAB.out.symm) _)⟩
        unfold bF
        by_cases e:j=i
        ·subst e;simp [HC2.out]
        ·rw [if_neg e]
         by_cases e3:j<i
         ·simp [e3,show j<i+1 by omega]
         ·simp [e3,show ¬ j<i+1 by omega]
       case measure=>simp [intOf];omega
      ·have d3:(Ti == 0)=false:=by simpa using hz
       have HC2:Hid (codeB n d s i=false):=Lib.hid (by unfold codeB;rw [hb,←HTi.out,decide_eq_false hz];rfl)
       clear hz
       go_wp2
       go_roundw
       case rel=>
        refine⟨i+1,by omega,by go_num,Lib.hid ((OA.out.set i _).congr (fun j hj=>?_)),Lib.hid (VA.out.setCell (Nat.le_of_eq HAB.out.symm) _)⟩
        unfold bF
        by_cases e:j=i
        ·subst e;simp [HC2.out]
        ·rw [if_neg e]
         by_cases e3:j<i
         ·simp [e3,show j<i+1 by omega]
         ·simp [e3,show ¬ j<i+1 by omega]
       case measure=>simp [intOf];omega
     ·rw [hb] at hbit
      have HC2:Hid (codeB n d s i=true):=Lib.hid (by unfold codeB;rw [hb];rfl)
      go_wp2
      go_roundw
      case rel=>
       refine⟨i+1,by omega,by go_num,Lib.hid ((OA.out.set i _).congr (fun j hj=>?_)),Lib.hid (VA.out.setCell (Nat.le_of_eq HAB.out.symm) _)⟩
       unfold bF
       by_cases e:j=i
       ·subst e;simp [HC2.out]
       ·rw [if_neg e]
        by_cases e3:j<i
        ·simp [e3,show j<i+1 by omega]
        ·simp [e3,show ¬ j<i+1 by omega]
      case measure=>simp [intOf];omega
    ·obtain rfl:n=i:=by omega
     have e2:decide ((n:Int)<(n:Int))=false:=by simp
     have OA:Hid (wr.rowIs ab 4 n (bF (codeB n d s))):=Lib.hid (OA.out.congr (fun j hj=>by simp [bF,hj]))
     have BB:=Lib.hid (BB.out.below VA.out)
     have HMi:=Lib.hid (HMr.out.mono VA.out (Nat.le_refl _))
     have KLi:Hid (Below LB w2 wr):=Lib.hid (KL.out.trans (VA.out.mono (by have:=HLE.out;have:=KL.out.size;omega)))
     have HA0:Hid (∀ k,k<n→sumF (d k) n=0→codeB n d s k=true):=Lib.hid (fun k _ e=>by unfold codeB;rw [decide_eq_true e,Bool.or_true])
     clear VA KL HMr HTr
     go_wp2_with fail
     refine (least_any b n cash d _ _ _ (codeB n d s) ab n _ HMi.out h0 h8 HR.out HD.out (bls_of OA.out) HA0.out).mono ?_
     rintro e w5 ⟨⟨PB,y,rfl,hpr,hls,hpb⟩ | ⟨rfl,hno⟩,hb5⟩
     ·have heq:=eqlR_some ⟨PB,0,none⟩ n n
      have HPL:Hid (LB≠PB):=Lib.hid (by obtain⟨_,_,_,_,_,_,_,_,o,_⟩:=BB.out;have:=o.lt;omega)
      have PR:=Lib.hid hpr
      have LS:=Lib.hid hls
      have BB:=Lib.hid (BB.out.below hb5)
      have KLi:=Lib.hid (KLi.out.trans (hb5.mono (by have:=HLE.out;have:=KLi.out.size;omega)))
      clear hpr hls hb5 OA HMi
      go_wp2_with (first
       | (go_at_call 59;(with_reducible refine (rat_whole 0 (by omega) (by omega) _).mono ?_);rintro e w6 ⟨r6,rfl,hr6,hb6⟩;obtain⟨s6,a6,n6,c6,b6,l6,k6,rfl,Q6⟩:=hr6.shape;have PR:=Lib.hid (PR.out.below hb6 (Nat.le_refl _));have BB:=Lib.hid (BB.out.below hb6);have KLi:=Lib.hid (KLi.out.trans (hb6.mono (by have:=HLE.out;have:=KLi.out.size;omega)));clear hr6 hb6))
      have OS0:=Lib.hid (own4_new w6 w6.heap.size rfl (.bool s6) (.slice a6 n6 c6) (.bool false) (.slice b6 l6 k6) 92)
      have VS0:=Lib.hid (boxes1 w6 (.cells #[.bool s6,.slice a6 n6 c6,.bool false,.slice b6 l6 k6] 92))
      have Q6:=Lib.hid (Q6.out.mono VS0.out (Nat.le_refl _))
      obtain⟨SB,hSB⟩:∃ SB,SB=w6.heap.size:=⟨_,rfl⟩
      rw [←hSB] at OS0 ⊢
      have HSB:=Lib.hid hSB
      have HSL:Hid (LB≠SB):=Lib.hid (by obtain⟨_,_,_,_,_,_,_,_,o,_⟩:=BB.out;have:=o.lt;omega)
      clear hSB heq
      generalize w6.alloc (.cells #[.bool s6,.slice a6 n6 c6,.bool false,.slice b6 l6 k6] 92)=w7 at *
      go_loopw [71] (fun v71 wi=>∃ k:Nat,k≤n∧v71 = .int .i64 (k:Nat)∧∃ s7 a7 n7 c7 b7 l7 k7 K,Hid (Own4 wi SB (.bool s7) (.slice a7 n7 c7) (.bool false) (.slice b7 l7 k7))∧Hid (RatIs wi (.agg #[.bool s7,.slice a7 n7 c7,.bool false,.slice b7 l7 k7]) (sumQ y k) K)∧Hid (K+1=2 ^ k*201)∧Hid (Below w6.heap.size w6 wi)) (fun v71 _=>n - (intOf v71).toNat)
      case atStart=>exact⟨0,by omega,rfl,s6,a6,n6,c6,b6,l6,k6,200,OS0,Lib.hid (Q6.out.le (by omega)),Lib.hid (by omega),VS0⟩
      case round=>
       clear OS0 VS0 Q6
       obtain⟨k,hk,rfl,s7,a7,n7,c7,b7,l7,k7,K,OS,QS,HK,VS⟩:=hrel
       by_cases h3:k<n
       ·have e3:decide ((k:Int)<(n:Int))=true:=by simpa using h3
        have e3n:decide (k<n)=true:=by simpa using h3
        have ixp:=fun W=>rowIx PB n n k h3 W
        obtain⟨sx,ax,nx,cx,ax2,nx2,cx2,PX0,KX0⟩:=PR.out.cell k h3
        have KX:=Lib.hid ((KX0 trivial).mono VS.out (Nat.le_refl _))
        obtain⟨p0,p1,p2,p3,-⟩:=PX0.below VS.out PX0.lt
        have KB:=Lib.hid (boxes1 wr (.cells #[.bool sx,.slice ax nx cx,.bool false,.slice ax2 nx2 cx2] 92))
        have HX0:=Lib.hid (own4_new wr wr.heap.size rfl (.bool sx) (.slice ax nx cx) (.bool false) (.slice ax2 nx2 cx2) 92)
        have OX:=OS.out
        have HSZ:=Lib.hid OS.out.lt
        clear PX0 KX0
        obtain⟨hk1,hk2,hk3⟩:=sum_bound k (by omega) K HK.out
        have HK3:=Lib.hid hk3
        have HFR:Hid (w6.heap.size≤SB):=Lib.hid (Nat.le_of_eq HSB.out.symm)
        have OS2:=Lib.hid (OX.below KB.out HSZ.out)
        have QS2:=Lib.hid (QS.out.mono KB.out (Nat.le_refl _))
        have KX2:=Lib.hid (KX.out.mono KB.out (Nat.le_refl _))
        have VS2:=Lib.hid (VS.out.trans (KB.out.mono VS.out.size))
        clear hk3 OX
        obtain⟨z0,z1,z2,z3,zf,zl⟩:=OS2.out
        obtain⟨x0,x1,x2,x3,xf,xl⟩:=HX0.out
        go_wp2_with (first
         | (go_at_call 61;go_loud ((with_reducible refine (rat_add _ _ (sumQ y k) (y k) K _ QS2.out (KX2.out.le hk1) (by omega) (by omega)).mono ?_);rintro e w9 ⟨r9,rfl,hr9,hb9⟩;obtain⟨s9,a9,n9,c9,b9,l9,k9,rfl,Q9⟩:=hr9.shape;clear hr9;have VS2:=Lib.hid (VS2.out.trans (hb9.mono VS2.out.size));have OS2:=Lib.hid (OS2.out.below hb9 OS2.out.lt);clear z0 z1 z2 z3 zf zl x0 x1 x2 x3 xf xl hb9;obtain⟨z0,z1,z2,z3,zf,zl⟩:=OS2.out)))
        go_roundw
        case rel=>exact⟨k+1,by omega,by go_num,s9,a9,n9,c9,b9,l9,k9,2*K+1,Lib.hid (OS2.out.anew (.bool s9) (.slice a9 n9 c9) (.bool false) (.slice b9 l9 k9)),Lib.hid (Q9.out.into' (.bool s9) (.slice a9 n9 c9) (.bool false) (.slice b9 l9 k9) OS2.out),HK3,Lib.hid (below_set4q VS2.out HFR.out (.bool s9) (.slice a9 n9 c9) (.bool false) (.slice b9 l9 k9))⟩
        case measure=>simp [intOf];omega
       ·obtain rfl:n=k:=by omega
        have e3:decide ((n:Int)<(n:Int))=false:=by simp
        obtain⟨hk1,hk2,-⟩:=sum_bound n h8 K HK.out
        have PR:=Lib.hid (PR.out.below VS.out (Nat.le_refl _))
        have BB:=Lib.hid (BB.out.below VS.out)
        have KLi:=Lib.hid (KLi.out.trans (VS.out.mono (by have:=HLE.out;have:=KLi.out.size;omega)))
        clear VS
        obtain⟨z0,z1,z2,z3,zf,zl⟩:=OS.out
        obtain⟨sb,ab',nb,cb',bb,lb,kb,sv,O1,R1,hv⟩:=BB.out
        have OL:=Lib.hid O1
        have RL:=Lib.hid R1
        clear O1 R1 BB
        rcases hv with ⟨hv1,hnone⟩ | ⟨PB0,x,hv1,hr0,hf0,hs0⟩
        ·subst hv1
         have heq:=eqlR_none
         have HBF:=Lib.hid (hnone.first HR.out HD.out LS.out)
         obtain⟨y0,y1,y2,y3,yf,yl⟩:=OL.out
         clear hnone
         go_wp2
         go_region
         all_goals
          go_wp2
          go_roundw
          case rel=>exact⟨s+1,by omega,by go_num,Lib.hid ⟨s7,a7,n7,c7,b7,l7,k7,sumQ y n,OL.out.drew.anew (.bool s7) (.slice a7 n7 c7) (.bool false) (.slice b7 l7 k7),(QS.out.le hk2).drew.into' (.bool s7) (.slice a7 n7 c7) (.bool false) (.slice b7 l7 k7) OL.out.drew,.inr ⟨PB,y,rfl,(PR.out.drew).far4 (.bool s7) (.slice a7 n7 c7) (.bool false) (.slice b7 l7 k7) (own4_rd OL.out.drew) HPL.out,HBF.out,rfl⟩⟩,Lib.hid (below_set4q KLi.out.drew (Nat.le_refl _) (.bool s7) (.slice a7 n7 c7) (.bool false) (.slice b7 l7 k7))⟩
          case measure=>simp [intOf];omega
        ·subst hv1
         have heq:=eqlR_some ⟨PB0,0,none⟩ n n
         have R0:=Lib.hid hr0
         obtain⟨y0,y1,y2,y3,yf,yl⟩:=OL.out
         clear hr0
         by_cases hlt:sumQ y n<sv
         ·have e4:decide (cmpQ (sumQ y n) sv<0)=true:=by rw [cmpQ_lt];simpa using hlt
          have e5:cmpQ (sumQ y n) sv<0:=by simpa using e4
          have HBF:=Lib.hid (hf0.better HR.out HD.out LS.out (by rw [←hs0];exact hlt))
          clear hf0 hs0 hlt
          go_wp2_with (first
           | (go_at_call 62;(with_reducible refine (rat_cmp_val _ _ (sumQ y n) sv 60000 _ _ (QS.out.le hk2) RL.out (by omega) rfl).mono ?_);rintro e w9 ⟨rfl,hb9⟩;have PR:=Lib.hid (PR.out.below hb9 (Nat.le_refl _));have OS:=Lib.hid (OS.out.below hb9 OS.out.lt);have OL:=Lib.hid (OL.out.below hb9 OL.out.lt);have QS:=Lib.hid (QS.out.mono hb9 (Nat.le_refl _));have KLi:=Lib.hid (KLi.out.trans (hb9.mono (by have:=HLE.out;have:=KLi.out.size;omega)));clear z0 z1 z2 z3 zf zl y0 y1 y2 y3 yf yl hb9;obtain⟨z0,z1,z2,z3,zf,zl⟩:=OS.out;obtain⟨y0,y1,y2,y3,yf,yl⟩:=OL.out))
          go_region
          all_goals
           go_wp2
           go_roundw
           case rel=>exact⟨s+1,by omega,by go_num,Lib.hid ⟨s7,a7,n7,c7,b7,l7,k7,sumQ y n,OL.out.drew.anew (.bool s7) (.slice a7 n7 c7) (.bool false) (.slice b7 l7 k7),(QS.out.le hk2).drew.into' (.bool s7) (.slice a7 n7 c7) (.bool false) (.slice b7 l7 k7) OL.out.drew,.inr ⟨PB,y,rfl,(PR.out.drew).far4 (.bool s7) (.slice a7 n7 c7) (.bool false) (.slice b7 l7 k7) (own4_rd OL.out.drew) HPL.out,HBF.out,rfl⟩⟩,Lib.hid (below_set4q KLi.out.drew (Nat.le_refl _) (.bool s7) (.slice a7 n7 c7) (.bool false) (.slice b7 l7 k7))⟩
           case measure=>simp [intOf];omega
         ·have e4:decide (cmpQ (sumQ y n) sv<0)=false:=by rw [cmpQ_lt];simpa using hlt
          have e5:0≤cmpQ (sumQ y n) sv:=by simpa using e4
          have HBF:=Lib.hid (hf0.keep HR.out HD.out LS.out (by rw [←hs0];exact hlt))
          have HSV:=Lib.hid hs0
          clear hf0 hs0 hlt
          go_wp2_with (first
           | (go_at_call 62;(with_reducible refine (rat_cmp_val _ _ (sumQ y n) sv 60000 _ _ (QS.out.le hk2) RL.out (by omega) rfl).mono ?_);rintro e w9 ⟨rfl,hb9⟩;have OL:=Lib.hid (OL.out.below hb9 OL.out.lt);have RL:=Lib.hid (RL.out.mono hb9 (Nat.le_refl _));have R0:=Lib.hid (R0.out.below hb9 (Nat.le_refl _));have KLi:=Lib.hid (KLi.out.trans (hb9.mono (by have:=HLE.out;have:=KLi.out.size;omega)));clear hb9))
          go_roundw
          case rel=>exact⟨s+1,by omega,by go_num,Lib.hid ⟨sb,ab',nb,cb',bb,lb,kb,sv,OL.out,RL.out,.inr ⟨PB0,x,rfl,R0.out,HBF.out,HSV.out⟩⟩,KLi⟩
          case measure=>simp [intOf];omega
     ·have heq:=eqlR_none
      have BB:=Lib.hid ((BB.out.below hb5).skip hno)
      have KLi:=Lib.hid (KLi.out.trans (hb5.mono (by have:=HLE.out;have:=KLi.out.size;omega)))
      clear hno hb5
      go_wp2
      go_roundw
      case rel=>exact⟨s+1,by omega,by go_num,BB,KLi⟩
      case measure=>simp [intOf];omega
  ·obtain rfl:N=s:=by omega
   have e1:decide ((N:Int)<(N:Int))=false:=by simp
   obtain⟨_,_,_,_,_,_,_,_,-,-,⟨rfl,hn⟩ | ⟨PB,x,rfl,hr,hf,-⟩⟩:=BB.out
   ·exact (NoneF.end_ HR.out HD.out (by rw [←HN.out];exact hn)).elim
   ·have HE:=Lib.hid (BestF.end_ HR.out HD.out (by rw [←HN.out];exact hf))
    obtain⟨t,ht⟩:=hf.ls
    have HMX:Hid (∀ j,j<n→MaxD (x j).num.natAbs∧MaxD (x j).den):=Lib.hid (fun j hj=>by
     have h:=ht.small HR.out h8 HD.out j hj
     exact⟨⟨Nat.lt_of_le_of_lt h.1 bd_ten⟩,⟨Nat.lt_of_le_of_lt h.2 bd_ten⟩⟩)
    have PR:=Lib.hid hr
    have KW:=Lib.hid (KW.out.trans (KL.out.mono (by have:=HLE.out;have:=KW.out.size;omega)))
    clear hf ht hr
    go_wp2_with (first
     | (go_at_call 40;(with_reducible refine (nums_any PB n n x 200 _ PR.out.rats (by omega) (by omega) HMX.out).mono ?_);rintro e w3 ⟨va,vk,ss,rfl,htx,hv,hb3⟩;have HTX:=Lib.hid htx;have HV:=Lib.hid hv;have KW:=Lib.hid (KW.out.trans (hb3.mono KW.out.size));clear hv hb3 htx))
    go_ret2
    exact⟨va,vk,ss,x,rfl,HTX.out,HMX.out,HE.out,Sl.of_own HV.out (fun i hi=>strL_get ss n i hi),KW.out⟩
end Go.Proofs.YtgmopcncbpdniaaGreat
set_option linter.unusedVariables false
set_option linter.unusedSimpArgs false
namespace Go.Proofs.YtgmopcncbpdniaaGreat
open Go.RowKit
attribute [local go_sem ↓] Go.wp_at_zero Go.wp_at_succ
theorem rclr_of {n:Nat} {cash:Nat→Int} {d:Nat→Nat→Int} {p:Nat→Rat} (h:ClrQ n (cashQ cash) (totQ n d) (shQ n d) p):RClr n cash d p n:=fun i hi=>by
 refine⟨h.pos i hi,?_⟩
 have h1:=h.tot i hi
 have h2:=h.has i hi
 have h3:=h.eq i hi
 unfold dueQ
 split
 ·rcases h3 with e | e
  ·grind
  ·exact e
 ·rcases h3 with e | e
  ·exact e
  ·grind
theorem keep_eq {n:Nat} {cash:Nat→Int} {d:Nat→Nat→Int} {x p:Nat→Rat} (hR:Rng n cash d) (hd:∀ i j,0≤d i j) (hx:ClrQ n (cashQ cash) (totQ n d) (shQ n d) x) (hp:ClrQ n (cashQ cash) (totQ n d) (shQ n d) p) (hle:∀ i,i<n→x i≤p i):∀ i,i<n→keepP n cash d x i=keepP n cash d p i:=
 keep_same (mktS_of hR hd) hp hx hle
theorem keep_pos {n:Nat} {cash:Nat→Int} {d:Nat→Nat→Int} {p:Nat→Rat} (hp:ClrQ n (cashQ cash) (totQ n d) (shQ n d) p) (i:Nat) (hi:i<n):0≤keepP n cash d p i:=by
 have:=hp.has i hi
 unfold keepP
 grind
theorem cmpR_le {a b:Rat} (h:a≤b):decide (0<cmpR a b)=false:=by
 unfold cmpR
 split
 ·decide
 ·split
  ·decide
  ·grind
theorem cmpR_same (a:Rat):cmpR a a=0:=(cmpR_zero a a).2 rfl
theorem cmpR_ge {a:Rat} (h:0≤a):decide (cmpR a 0<0)=false:=by
 unfold cmpR
 split
 ·grind
 ·split <;> decide
theorem frac_size {s:ByteArray} {p:Int} {d:Nat} (h:FracTxt s p d) (h1:MaxD p.natAbs) (h2:MaxD d):s.size≤1000000:=by
 obtain⟨t,ht,hc⟩:=h
 have a:=ht.size (K:=4000) (by omega) h1.lt
 have e1:(⟨#[45]⟩:ByteArray).size=1:=rfl
 have e2:(⟨#[47]⟩:ByteArray).size=1:=rfl
 rcases hc with ⟨_,rfl⟩ | ⟨_,u,hu,rfl⟩
 ·split
  ·rw [ByteArray.size_append];omega
  ·omega
 ·have b:=hu.size (K:=4000) (by omega) h2.lt
  rw [ByteArray.size_append,ByteArray.size_append]
  split
  ·rw [ByteArray.size_append];omega
  ·omega
theorem short_40 (s:ByteArray) (L:Nat) (f:Nat→Nat) (b:Bool) (w:World) (hs:Bts s L f) (hL:L≤1000000) (hb:b=true↔∀ i,i≤L→shF f i≤40) :
  Calls Tryz.prog 37 #[.string s,.int .i64 40] w fun e w'=>e = .returned (.bool b)∧Below w.heap.size w w':=
 short_any s L 40 f b w hs hL (by omega) hb
set_option maxHeartbeats 8000000 in
set_option maxRecDepth 100000 in
theorem lawBetween (a0 lx ly:Nat) (vx vy:Value) (fx fy:Nat→Nat) (w:World) (h0:a0<256) (hx:U16s w vx lx fx) (hy:U16s w vy ly fy) (hlx:lx≤9223372036854775807) (hly:ly≤9223372036854775807) :
  Calls Tryz.prog 9 #[.int .u8 (a0:Nat),vx,vy] w fun e w'=>e = .returned (.bool true)∧Below w.heap.size w w':=by
 go_enter Tryz.func9,Tryz.ntmps9
 go_wp2_with fail
 refine (lmade_any a0 lx ly vx vy fx fy _ h0 hx hy hlx hly).mono ?_
 rintro e w1 ⟨va,vk,vb,vl,rfl,hc1,hm1,hb1⟩
 have hDB:=debtM_debts (a0 % 8+1) ly fy (by omega) (by omega)
 have KW:=Lib.hid hb1
 obtain⟨n,hn⟩:∃ n,n=a0 % 8+1:=⟨_,rfl⟩
 rw [←hn] at hc1 hm1 hDB ⊢
 have hn1:1≤n:=by omega
 have hn8:n≤8:=by omega
 have HDN:Hid (∀ i j,0≤debtM n ly fy i j):=Lib.hid (fun i j=>(debtM_range n ly fy i j).1)
 have HCR:Hid (∀ i,0≤cashM lx fx i∧cashM lx fx i≤1000):=Lib.hid (fun i=>cashM_range lx fx i)
 clear hx hy hb1 hn hlx hly h0
 generalize debtM n ly fy=d at hm1 hDB HDN ⊢
 generalize cashM lx fx=c at hc1 HCR ⊢
 have HC:=Lib.hid hc1
 have HD:=Lib.hid hm1
 have HDB:=Lib.hid hDB
 have HRG:=Lib.hid (rng_of hDB (fun j _=>HCR.out j) HDN.out)
 obtain⟨ps,hps⟩:=ps_ex HRG.out hn8 HDN.out
 have HPS:=Lib.hid hps
 clear hc1 hm1 hDB hps
 go_wp2_with fail
 refine (clear_any _ _ n c (fun _=>n) d ps _ HC.out HD.out HDB.out (fun j _=>HCR.out j) HDN.out HPS.out).mono ?_
 rintro e w2 ⟨q,pa,pk,ss,rfl,hl2,htx,hst,hb2⟩
 have HL:=Lib.hid hl2
 have HCL:=Lib.hid (pays_of HRG.out HDN.out HPS.out hl2).clr
 have TX:=Lib.hid htx
 have TQ:=Lib.hid (txtq_of HRG.out hn8 HDN.out HPS.out htx)
 have ST:Hid (Strs w2 (.slice pa n pk) n ss):=Lib.hid hst
 have HC:=Lib.hid (HC.out.mono hb2 (Nat.le_refl _))
 have HD:=Lib.hid (HD.out.mono hb2 (Nat.le_refl _))
 have KW:=Lib.hid (KW.out.trans (hb2.mono KW.out.size))
 clear hl2 htx hst hb2
 go_wp2_with fail
 refine (Least_any _ _ n c (fun _=>n) d _ HC.out HD.out HDB.out (fun j _=>HCR.out j) HDN.out).mono ?_
 rintro e w3 ⟨qa,qk,s2,x,rfl,htx,hmx,⟨hxc,hxl⟩,hst,hb2⟩
 have HXC:=Lib.hid hxc
 have HXL:Hid (∀ i,i<n→x i≤PS n c d ps q i):=Lib.hid (hxl _ HCL.out)
 have HXE:Hid (∀ i,i<n→keepP n c d x i=keepP n c d (PS n c d ps q) i):=Lib.hid (keep_eq HRG.out HDN.out hxc HCL.out HXL.out)
 have TQ2:Hid (TxtQs n x s2):=Lib.hid ⟨fun j hj=>⟨htx.txt j hj,(hmx j hj).1,(hmx j hj).2⟩⟩
 have ST2:Hid (Strs w3 (.slice qa n qk) n s2):=Lib.hid hst
 have ST:=Lib.hid (ST.out.mono hb2 (Nat.le_refl _))
 have HC:=Lib.hid (HC.out.mono hb2 (Nat.le_refl _))
 have HD:=Lib.hid (HD.out.mono hb2 (Nat.le_refl _))
 have KW:=Lib.hid (KW.out.trans (hb2.mono KW.out.size))
 clear htx hmx hxc hxl hst hb2
 go_wp2_with fail
 refine (keeps_any _ _ n c (fun _=>n) d ps _ HC.out HD.out HDB.out (fun j _=>HCR.out j) HDN.out HPS.out).mono ?_
 rintro e w4 ⟨q',ka,kk,s3,rfl,hl3,htx,hst,hb2⟩
 obtain rfl:=last_uniq HL.out hl3
 have TQ3:Hid (TxtQs n (keepP n c d (PS n c d ps q)) s3):=Lib.hid ⟨fun j hj=>⟨htx.txt j hj,(keep_maxD HRG.out hn8 HDN.out HPS.out q j hj).1,(keep_maxD HRG.out hn8 HDN.out HPS.out q j hj).2⟩⟩
 have ST3:Hid (Strs w4 (.slice ka n kk) n s3):=Lib.hid hst
 have ST:=Lib.hid (ST.out.mono hb2 (Nat.le_refl _))
 have ST2:=Lib.hid (ST2.out.mono hb2 (Nat.le_refl _))
 have HC:=Lib.hid (HC.out.mono hb2 (Nat.le_refl _))
 have HD:=Lib.hid (HD.out.mono hb2 (Nat.le_refl _))
 have KW:=Lib.hid (KW.out.trans (hb2.mono KW.out.size))
 clear htx hl3 hst hb2
 go_wp2_with fail
 refine (lnums_any _ n (PS n c d ps q) ss _ ST.out hn1 (by omega) TQ.out).mono ?_
 rintro e w5 ⟨ra,rk,rfl,QA,hb2⟩
 have QA:=Lib.hid (VSl.of QA.out)
 have ST:=Lib.hid (ST.out.mono hb2.out (Nat.le_refl _))
 have ST2:=Lib.hid (ST2.out.mono hb2.out (Nat.le_refl _))
 have ST3:=Lib.hid (ST3.out.mono hb2.out (Nat.le_refl _))
 have HC:=Lib.hid (HC.out.mono hb2.out (Nat.le_refl _))
 have HD:=Lib.hid (HD.out.mono hb2.out (Nat.le_refl _))
 have KW:=Lib.hid (KW.out.trans (hb2.out.mono KW.out.size))
 clear hb2
 go_wp2_with fail
 refine (lnums_any _ n x s2 _ ST2.out hn1 (by omega) TQ2.out).mono ?_
 rintro e w6 ⟨xa,xk,rfl,QX,hb2⟩
 have QX:=Lib.hid (VSl.of QX.out)
 have QA:=Lib.hid (QA.out.mono hb2.out (Nat.le_refl _))
 have ST:=Lib.hid (ST.out.mono hb2.out (Nat.le_refl _))
 have ST3:=Lib.hid (ST3.out.mono hb2.out (Nat.le_refl _))
 have HC:=Lib.hid (HC.out.mono hb2.out (Nat.le_refl _))
 have HD:=Lib.hid (HD.out.mono hb2.out (Nat.le_refl _))
 have KW:=Lib.hid (KW.out.trans (hb2.out.mono KW.out.size))
 clear hb2 ST2 TQ2
 go_wp2_with fail
 refine (lnums_any _ n (keepP n c d (PS n c d ps q)) s3 _ ST3.out hn1 (by omega) TQ3.out).mono ?_
 rintro e w7 ⟨za,zk,rfl,QZ,hb2⟩
 have QZ:=Lib.hid (VSl.of QZ.out)
 have QA:=Lib.hid (QA.out.mono hb2.out (Nat.le_refl _))
 have QX:=Lib.hid (QX.out.mono hb2.out (Nat.le_refl _))
 have ST:=Lib.hid (ST.out.mono hb2.out (Nat.le_refl _))
 have HC:=Lib.hid (HC.out.mono hb2.out (Nat.le_refl _))
 have HD:=Lib.hid (HD.out.mono hb2.out (Nat.le_refl _))
 have KW:=Lib.hid (KW.out.trans (hb2.out.mono KW.out.size))
 clear hb2 ST3 TQ3
 go_wp2_with fail
 refine (rclears_any _ _ _ n c d (PS n c d ps q) 1000 true _ ⟨fun _=>rclr_of HCL.out,fun _=>rfl⟩ HC.out HD.out QA.out hn8 (fun j _=>HCR.out j) HDN.out (fun i j hi hj=>(HRG.out.deb i j hi hj).2) (fun i hi=>(HRG.out.tot i hi).2) (by omega) (by omega)).mono ?_
 rintro e w8 ⟨rfl,hb2⟩
 have QZ:=Lib.hid (QZ.out.mono hb2 (Nat.le_refl _))
 have QA:=Lib.hid (QA.out.mono hb2 (Nat.le_refl _))
 have QX:=Lib.hid (QX.out.mono hb2 (Nat.le_refl _))
 have ST:=Lib.hid (ST.out.mono hb2 (Nat.le_refl _))
 have HC:=Lib.hid (HC.out.mono hb2 (Nat.le_refl _))
 have HD:=Lib.hid (HD.out.mono hb2 (Nat.le_refl _))
 have KW:=Lib.hid (KW.out.trans (hb2.mono KW.out.size))
 clear hb2
 go_wp2_with fail
 refine (rclears_any _ _ _ n c d x 1000 true _ ⟨fun _=>rclr_of HXC.out,fun _=>rfl⟩ HC.out HD.out QX.out hn8 (fun j _=>HCR.out j) HDN.out (fun i j hi hj=>(HRG.out.deb i j hi hj).2) (fun i hi=>(HRG.out.tot i hi).2) (by omega) (by omega)).mono ?_
 rintro e w9 ⟨rfl,hb2⟩
 have QZ:=Lib.hid (QZ.out.mono hb2 (Nat.le_refl _))
 have QA:=Lib.hid (QA.out.mono hb2 (Nat.le_refl _))
 have QX:=Lib.hid (QX.out.mono hb2 (Nat.le_refl _))
 have ST:=Lib.hid (ST.out.mono hb2 (Nat.le_refl _))
 have HC:=Lib.hid (HC.out.mono hb2 (Nat.le_refl _))
 have HD:=Lib.hid (HD.out.mono hb2 (Nat.le_refl _))
 have KW:=Lib.hid (KW.out.trans (hb2.mono KW.out.size))
 clear hb2
 go_wp2_with fail
 refine (lives_true _).mono ?_
 rintro e w10 ⟨rfl,hb2⟩
 have QZ:=Lib.hid (QZ.out.mono hb2 (Nat.le_refl _))
 have QA:=Lib.hid (QA.out.mono hb2 (Nat.le_refl _))
 have QX:=Lib.hid (QX.out.mono hb2 (Nat.le_refl _))
 have ST:=Lib.hid (ST.out.mono hb2 (Nat.le_refl _))
 have HC:=Lib.hid (HC.out.mono hb2 (Nat.le_refl _))
 have HD:=Lib.hid (HD.out.mono hb2 (Nat.le_refl _))
 have KW:=Lib.hid (KW.out.trans (hb2.mono KW.out.size))
 clear hb2
 go_wp2_with fail
 refine (rkeeps_any _ _ _ n c d (PS n c d ps q) 1000 _ HC.out HD.out QA.out hn8 (fun j _=>HCR.out j) HDN.out (fun i j hi hj=>(HRG.out.deb i j hi hj).2) (fun i hi=>(HRG.out.tot i hi).2) (by omega) (by omega)).mono ?_
 rintro e w11 ⟨ua,uk,xs1,rfl,hu,hb2⟩
 have QU:=Lib.hid (hu.sl (by omega))
 have QZ:=Lib.hid (QZ.out.mono hb2 (Nat.le_refl _))
 have QA:=Lib.hid (QA.out.mono hb2 (Nat.le_refl _))
 have QX:=Lib.hid (QX.out.mono hb2 (Nat.le_refl _))
 have ST:=Lib.hid (ST.out.mono hb2 (Nat.le_refl _))
 have HC:=Lib.hid (HC.out.mono hb2 (Nat.le_refl _))
 have HD:=Lib.hid (HD.out.mono hb2 (Nat.le_refl _))
 have KW:=Lib.hid (KW.out.trans (hb2.mono KW.out.size))
 clear hb2 hu
 go_wp2_with fail
 refine (rkeeps_any _ _ _ n c d x 1000 _ HC.out HD.out QX.out hn8 (fun j _=>HCR.out j) HDN.out (fun i j hi hj=>(HRG.out.deb i j hi hj).2) (fun i hi=>(HRG.out.tot i hi).2) (by omega) (by omega)).mono ?_
 rintro e w12 ⟨wa,wk,xs2,rfl,hu,hb2⟩
 have QV2:=Lib.hid ((hu.sl (by omega)).congr HXE.out)
 have QU:=Lib.hid (QU.out.mono hb2 (Nat.le_refl _))
 have QZ:=Lib.hid (QZ.out.mono hb2 (Nat.le_refl _))
 have QA:=Lib.hid (QA.out.mono hb2 (Nat.le_refl _))
 have QX:=Lib.hid (QX.out.mono hb2 (Nat.le_refl _))
 have ST:=Lib.hid (ST.out.mono hb2 (Nat.le_refl _))
 have HC:=Lib.hid (HC.out.mono hb2 (Nat.le_refl _))
 have HD:=Lib.hid (HD.out.mono hb2 (Nat.le_refl _))
 have KW:=Lib.hid (KW.out.trans (hb2.mono KW.out.size))
 clear hb2 hu
 have HKP:Hid (∀ i,i<n→0≤keepP n c d (PS n c d ps q) i):=Lib.hid (fun i hi=>keep_pos HCL.out i hi)
 obtain⟨g1,G1,y,-,gl1,gv1⟩:=QX.out.val
 injection y with y1 y2 y3
 subst y1 y3
 obtain⟨g2,G2,y,-,gl2,gv2⟩:=QA.out.val
 injection y with y1 y2 y3
 subst y1 y3
 obtain⟨g3,G3,y,-,gl3,gv3⟩:=QU.out.val
 injection y with y1 y2 y3
 subst y1 y3
 obtain⟨g4,G4,y,-,gl4,gv4⟩:=QV2.out.val
 injection y with y1 y2 y3
 subst y1 y3
 obtain⟨g5,G5,y,-,gl5,gv5⟩:=QZ.out.val
 injection y with y1 y2 y3
 subst y1 y3
 have GL:=Lib.hid (And.intro gl1 (And.intro gl2 (And.intro gl3 (And.intro gl4 gl5))))
 have V1:=Lib.hid gv1
 have V2:=Lib.hid gv2
 have V3:=Lib.hid gv3
 have V4:=Lib.hid gv4
 have V5:=Lib.hid gv5
 have HDC:=HD
 obtain⟨da,db,d_o,dc,dra,drb,dro,drc,hde,hds⟩:=HD.out
 injection hde with y1 y2 y3
 subst y1 y3
 have K12:=Lib.hid (Below.refl w12.heap.size w12)
 clear gv1 gv2 gv3 gv4 gv5 gl1 gl2 gl3 gl4 gl5 QX QA QU QV2 QZ hds HD HXE HXC
 go_wp2_with fail
 go_loopw [23] (fun v23 wr=>∃ k:Nat,k≤n∧v23 = .int .i64 (k:Nat)∧Hid (Below w12.heap.size w12 wr)) (fun v23 _=>n - (intOf v23).toNat)
 case atStart=>exact⟨0,by omega,rfl,K12⟩
 case round=>
  clear K12
  obtain⟨k,hk,rfl,K2⟩:=hrel
  by_cases h:k<n
  ·have e1:decide ((k:Int)<(n:Int))=true:=by simpa using h
   have e1n:decide (k<n)=true:=by simpa using h
   have ixa:=fun W=>ixV g1 n xk k h W
   have ixb:=fun W=>ixV g2 n rk k h W
   have ixc:=fun W=>ixV g3 n uk k h W
   have ixd:=fun W=>ixV g4 n wk k h W
   have ixe:=fun W=>ixV g5 n zk k h W
   obtain⟨sa,aa,na,ca,ta,ba,la,qa',a0,a1,a2,a3,aq⟩:=V1.out k h
   obtain⟨sb,ab,nb,cb,tb,bb,lb,qb,b0,b1,b2,b3,bq⟩:=V2.out k h
   obtain⟨sc,ac,nc,cc,tc,bc,lc',qc,c0,c1,c2,c3,cq⟩:=V3.out k h
   obtain⟨sd,ad,nd',cd,td,bd,ld,qd,d0,d1,d2,d3,dq⟩:=V4.out k h
   obtain⟨se,ae,ne,ce,te,be,le',qe,x0,x1,x2,x3,xq⟩:=V5.out k h
   have AQ:=Lib.hid (QV.mono aq K2.out (Nat.le_refl _))
   have BQ:=Lib.hid (QV.mono bq K2.out (Nat.le_refl _))
   have CQ:=Lib.hid (QV.mono cq K2.out (Nat.le_refl _))
   have DQ:=Lib.hid (QV.mono dq K2.out (Nat.le_refl _))
   have XQ:=Lib.hid (QV.mono xq K2.out (Nat.le_refl _))
   have f1:=cmpR_le (HXL.out k h)
   have f2:=cmpR_same (keepP n c d (PS n c d ps q) k)
   have f3:=cmpR_ge (HKP.out k h)
   have VL0:=Lib.hid (Below.refl wr.heap.size wr)
   have VL:=Lib.hid VL0.out.drew
   have keepR:Hid (∀ w',Below wr.heap.size wr w'→w'.cell? ⟨g1,k*4,none⟩=some (.bool sa)∧w'.cell? ⟨g1,k*4+1,none⟩=some (.slice aa na ca)∧w'.cell? ⟨g1,k*4+2,none⟩=some (.bool ta)∧w'.cell? ⟨g1,k*4+3,none⟩=some (.slice ba la qa')∧w'.cell? ⟨g2,k*4,none⟩=some (.bool sb)∧w'.cell? ⟨g2,k*4+1,none⟩=some (.slice ab nb cb)∧w'.cell? ⟨g2,k*4+2,none⟩=some (.bool tb)∧w'.cell? ⟨g2,k*4+3,none⟩=some (.slice bb lb qb)∧w'.cell? ⟨g3,k*4,none⟩=some (.bool sc)∧w'.cell? ⟨g3,k*4+1,none⟩=some (.slice ac nc cc)∧w'.cell? ⟨g3,k*4+2,none⟩=some (.bool tc)∧w'.cell? ⟨g3,k*4+3,none⟩=some (.slice bc lc' qc)∧w'.cell? ⟨g4,k*4,none⟩=some (.bool sd)∧w'.cell? ⟨g4,k*4+1,none⟩=some (.slice ad nd' cd)∧w'.cell? ⟨g4,k*4+2,none⟩=some (.bool td)∧w'.cell? ⟨g4,k*4+3,none⟩=some (.slice bd ld qd)∧w'.cell? ⟨g5,k*4,none⟩=some (.bool se)∧w'.cell? ⟨g5,k*4+1,none⟩=some (.slice ae ne ce)∧w'.cell? ⟨g5,k*4+2,none⟩=some (.bool te)∧w'.cell? ⟨g5,k*4+3,none⟩=some (.slice be le' qe)):=
    Lib.hid (fun w' hb=>by
     obtain⟨l1,l2,l3,l4,l5⟩:=GL.out
     have hb:=K2.out.trans (hb.mono K2.out.size)
     exact⟨bel1 hb a0 l1,bel1 hb a1 l1,bel1 hb a2 l1,bel1 hb a3 l1,bel1 hb b0 l2,bel1 hb b1 l2,bel1 hb b2 l2,bel1 hb b3 l2,bel1 hb c0 l3,bel1 hb c1 l3,bel1 hb c2 l3,bel1 hb c3 l3,bel1 hb d0 l4,bel1 hb d1 l4,bel1 hb d2 l4,bel1 hb d3 l4,bel1 hb x0 l5,bel1 hb x1 l5,bel1 hb x2 l5,bel1 hb x3 l5⟩)
   clear a0 a1 a2 a3 aq b0 b1 b2 b3 bq c0 c1 c2 c3 cq d0 d1 d2 d3 dq x0 x1 x2 x3 xq
   go_wp2
   go_region_held3 (fun w'=>w'.cell? ⟨g1,k*4,none⟩=some (.bool sa)∧w'.cell? ⟨g1,k*4+1,none⟩=some (.slice aa na ca)∧w'.cell? ⟨g1,k*4+2,none⟩=some (.bool ta)∧w'.cell? ⟨g1,k*4+3,none⟩=some (.slice ba la qa')∧w'.cell? ⟨g2,k*4,none⟩=some (.bool sb)∧w'.cell? ⟨g2,k*4+1,none⟩=some (.slice ab nb cb)∧w'.cell? ⟨g2,k*4+2,none⟩=some (.bool tb)∧w'.cell? ⟨g2,k*4+3,none⟩=some (.slice bb lb qb)∧w'.cell? ⟨g3,k*4,none⟩=some (.bool sc)∧w'.cell? ⟨g3,k*4+1,none⟩=some (.slice ac nc cc)∧w'.cell? ⟨g3,k*4+2,none⟩=some (.bool tc)∧w'.cell? ⟨g3,k*4+3,none⟩=some (.slice bc lc' qc)∧w'.cell? ⟨g4,k*4,none⟩=some (.bool sd)∧w'.cell? ⟨g4,k*4+1,none⟩=some (.slice ad nd' cd)∧w'.cell? ⟨g4,k*4+2,none⟩=some (.bool td)∧w'.cell? ⟨g4,k*4+3,none⟩=some (.slice bd ld qd)∧w'.cell? ⟨g5,k*4,none⟩=some (.bool se)∧w'.cell? ⟨g5,k*4+1,none⟩=some (.slice ae ne ce)∧w'.cell? ⟨g5,k*4+2,none⟩=some (.bool te)∧w'.cell? ⟨g5,k*4+3,none⟩=some (.slice be le' qe))
    (first | (with_reducible exact keepR.out _ VL0.out) | (with_reducible exact keepR.out _ VL.out))
    (first
    | (go_at_call 14;(with_reducible refine (qv_cmp _ _ (x k) (PS n c d ps q k) 1000 _ (AQ.out.mono VL.out (Nat.le_refl _)) (BQ.out.mono VL.out (Nat.le_refl _)) (by omega)).mono ?_);rintro e wx ⟨rfl,hbx⟩;have VL:=Lib.hid (VL.out.trans (hbx.mono VL.out.size));clear hbx AQ BQ)
    | (go_at_call 14;(with_reducible refine (qv_cmp _ _ (keepP n c d (PS n c d ps q) k) (keepP n c d (PS n c d ps q) k) (2048*(1000+1)+3) _ (CQ.out.mono VL.out (Nat.le_refl _)) (DQ.out.mono VL.out (Nat.le_refl _)) (by omega)).mono ?_);rintro e wy ⟨rfl,hby⟩;rw [f2];have VL:=Lib.hid (VL.out.trans (hby.mono VL.out.size));clear hby DQ)
    | (go_at_call 14;(with_reducible refine (qv_cmp _ _ (keepP n c d (PS n c d ps q) k) (keepP n c d (PS n c d ps q) k) (2048*(1000+1)+3) _ (CQ.out.mono VL.out (Nat.le_refl _)) ((XQ.out.mono VL.out (Nat.le_refl _)).le (by omega)) (by omega)).mono ?_);rintro e wz ⟨rfl,hbz⟩;rw [f2];have VL:=Lib.hid (VL.out.trans (hbz.mono VL.out.size));clear hbz)
    | (go_at_call 29;(with_reducible refine (qv_sign (keepP n c d (PS n c d ps q) k) 1000 _ (XQ.out.mono VL.out (Nat.le_refl _))).mono ?_);rintro e ws ⟨rfl,hbs⟩;have VL:=Lib.hid (VL.out.trans (hbs.mono VL.out.size));clear hbs))
   all_goals
    go_wp2
    go_roundw
    case rel=>exact⟨k+1,by omega,by go_num,Lib.hid (K2.out.trans (VL.out.mono K2.out.size))⟩
    case measure=>simp [intOf];omega
  ·obtain rfl:n=k:=by omega
   have e1:decide ((n:Int)<(n:Int))=false:=by simp
   obtain⟨w13,rfl⟩:∃ w13:World,w13=wr:=⟨_,rfl⟩
   obtain⟨ta,tb,t_o,tc,hte,hts⟩:=ST.out
   injection hte with y1 y2 y3
   subst y1 y3
   have HS:=Lib.hid hts
   clear hts
   go_wp2_with fail
   go_loopw [24] (fun v24 wr=>∃ k:Nat,k≤n∧v24 = .int .i64 (k:Nat)∧Hid (∀ j,j<k→(PS n c d ps q j).num.natAbs<10 ^ 40∧(PS n c d ps q j).den<10 ^ 40)∧Hid (Below w12.heap.size w12 wr)) (fun v24 _=>n - (intOf v24).toNat)
   case atStart=>exact⟨0,by omega,rfl,Lib.hid (fun j hj=>by omega),K2⟩
   case round=>
    clear K2
    obtain⟨k,hk,rfl,HSM,K2⟩:=hrel
    by_cases h:k<n
    ·have e2:decide ((k:Int)<(n:Int))=true:=by simpa using h
     have e2n:decide (k<n)=true:=by simpa using h
     have y0:=(HS.out.mono K2.out (Nat.le_refl _)).cell k h
     have ix:=fun W=>ixN HS.out k pk h W
     have TK:=TQ.out.txt k h
     have HFR:=Lib.hid TK.txt
     have HSZ:=Lib.hid (frac_size TK.txt TK.mn TK.md)
     obtain⟨b,hb⟩:∃ b:Bool,b=true↔∀ i,i≤(ss k).size→shF (fun i=>if h:i<(ss k).size then (ss k)[i].toNat else 0) i≤40:=by
      by_cases hh:∀ i,i≤(ss k).size→shF (fun i=>if h:i<(ss k).size then (ss k)[i].toNat else 0) i≤40
      ·exact⟨true,fun _=>hh,fun _=>rfl⟩
      ·exact⟨false,fun e=>Bool.noConfusion e,fun e=>absurd e hh⟩
     have HB:=Lib.hid hb
     clear hb TK
     rcases b with _ | _
     ·go_wp2_with (go_at_call 37;(with_reducible refine (short_40 (ss k) _ _ false _ (bts_self _) HSZ.out HB.out).mono ?_);rintro e w14 ⟨rfl,hb14⟩;have K2:=Lib.hid (K2.out.trans (hb14.mono K2.out.size));clear hb14)
      go_ret
      exact⟨rfl,KW.out.trans (K2.out.mono KW.out.size)⟩
     ·have HM:=Lib.hid (sh_frac HFR.out (bts_self _) (HB.out.1 rfl) (by decide))
      go_wp2_with (go_at_call 37;(with_reducible refine (short_40 (ss k) _ _ true _ (bts_self _) HSZ.out HB.out).mono ?_);rintro e w14 ⟨rfl,hb14⟩;have K2:=Lib.hid (K2.out.trans (hb14.mono K2.out.size));clear hb14)
      go_roundw
      case rel=>exact⟨k+1,by omega,by go_num,Lib.hid (fun j hj=>by
       rcases Nat.lt_or_ge j k with e | e
       ·exact HSM.out j e
       ·rw [show j=k by omega];exact HM.out),K2⟩
      case measure=>simp [intOf];omega
    ·obtain rfl:n=k:=by omega
     have e2:decide ((n:Int)<(n:Int))=false:=by simp
     have HDC:=Lib.hid (HDC.out.mono K2.out (Nat.le_refl _))
     have HC:=Lib.hid (HC.out.mono K2.out (Nat.le_refl _))
     have ST:=Lib.hid (ST.out.mono K2.out (Nat.le_refl _))
     have KW:=Lib.hid (KW.out.trans (K2.out.mono KW.out.size))
     go_wp2_with (go_at_call 35;(with_reducible refine (dclears_any _ _ _ n c (fun _=>n) d (PS n c d ps q) ss true ⟨fun _=>(gd_iff HRG.out HDN.out).2 HCL.out,fun _=>rfl⟩ _ HC.out HDC.out HDB.out (fun j _=>HCR.out j) HDN.out ST.out TX.out HSM.out).mono ?_);rintro e w14 ⟨rfl,hb14⟩;have KW:=Lib.hid (KW.out.trans (hb14.mono KW.out.size));clear hb14)
     go_ret
     exact⟨rfl,KW.out⟩
end Go.Proofs.YtgmopcncbpdniaaGreat
set_option linter.unusedVariables false
set_option linter.unusedSimpArgs false
namespace Go.Proofs.YtgmopcncbpdniaaGreat
open Go.ChangeShapes Go.WideShapes Go.ChangeAt Go.RowKit Go.Deep
set_option maxHeartbeats 1600000 in
set_option maxRecDepth 100000 in
theorem debtBetween_lifted (os:Os) (started:os.Started) (H:Type) (enc:TypeId × Value→H) :
  ReturnsInHanded {} Tryz.checked os 9 .any (Rows.debtBetweenSpec.pre6 enc Tryz.prog Tryz.f9 Rows.debtBetweenRow.domain false) (Rows.debtBetweenSpec.post enc Tryz.prog Tryz.f9 false true false false):=by
 refine returnsInHanded_of_change (C:=Tryz.checked) ownGodebug started (by kernel_rfl) Tryz.func9
  (ChangeSpec.witness6 (enc:=enc) (C:=Tryz.checked) false ⟨#[],#[.int .u8 0,.slice none 0 0,.slice none 0 0],[]⟩ 8 (by kernel_rfl) (by kernel_rfl) (by kernel_rfl) (by kernel_rfl)) ?_
 intro W base args ds gs before hval0 hW _ _
 have hval:∀ (j:Nat) t v,Tryz.f9.params[j]? = some t→args[j]? = some v→Value.okWide Tryz.prog W .any base t v:=hval0
 have hW':=hW
 obtain⟨p,q,hA0,hV,rfl,_,_⟩:=hW
 have hA:DataW.TrodAll enc Tryz.prog W 0 (fun _=>true) true Tryz.f9.params.toList args.toList ds p:=hA0
 rw [Tryz.params9] at hA hval
 obtain⟨v0,vs0,d0,ds0,p0,q0,e0,rfl,rfl,h0,r0⟩:=trodAll_cons hA
 obtain⟨v1,vs1,d1,ds1,p1,q1,e1,f1,g1,h1,r1⟩:=trodAll_cons r0
 subst e1 f1 g1
 obtain⟨v2,vs2,d2,ds2,p2,q2,e2,f2,g2,h2,r2⟩:=trodAll_cons r1
 subst e2 f2 g2
 obtain⟨rfl,rfl,rfl⟩:=trodAll_nil r2
 obtain rfl:args = #[v0,v1,v2]:=by cases args;simp_all
 obtain⟨rfl,rfl⟩:=trodVars_none hV
 clear hA0 hval0 hA
 have h0k:=h0
 obtain⟨a0,rfl,rfl,rfl,w0⟩:=open_int Tryz.underlying5 (hval 0 _ v0 rfl rfl) h0
 obtain⟨b0,c0⟩:=wf_u8 _ w0
 obtain⟨n0,rfl⟩:=Int.eq_ofNat_of_zero_le b0
 obtain⟨n1,f1,s1,b1,l1⟩:=nats_of_trod Tryz.underlying23 Tryz.underlying69 (by kernel_rfl) wf_u16 (hval 1 _ v1 rfl rfl) h1
 obtain⟨n2,f2,s2,b2,l2⟩:=nats_of_trod Tryz.underlying23 Tryz.underlying69 (by kernel_rfl) wf_u16 (hval 2 _ v2 rfl rfl) h2
 have hlt:∀ x ∈ ([] ++ (p1 ++ (p2 ++ []))) ++ [],x.block<W.heap.size:=fun x hx=>hW'.lt x hx
 refine (lawBetween n0 n1 n2 v1 v2 f1 f2 W (by omega) ⟨s1,fun i hi=>by have:=b1 i hi;omega⟩ ⟨s2,fun i hi=>by have:=b2 i hi;omega⟩ l1 l2).mono fun e W' ⟨he,hb⟩=>?_
 subst he
 have stay:∀ {t:TypeId} {v:Value} {d:DataW H} {ps:List MemPlace},Tryz.prog.readableRec t=true→t<Tryz.prog.types.size→DataW.Trod enc Tryz.prog W 0 (fun _=>true) true t v d ps→(∀ x ∈ ps,x ∈ ([] ++ (p1 ++ (p2 ++ []))) ++ [])→
   ∀ sp:Nat→Bool,(∀ x ∈ ([] ++ (p1 ++ (p2 ++ []))) ++ [],sp x.block=true)→DataW.Trod enc Tryz.prog W' 0 sp true t v d ps:=fun hr hrow h hin sp hsp=>
  WideElems.Trod_stays laidOutP hr hrow h (fun x hx=>hb.same (hlt x (hin x hx))) (fun x hx=>hsp x (hin x hx))
 refine⟨_,rfl,post_of_below (pa:=([] ++ (p1 ++ (p2 ++ [])))) (pv:=[]) hW' (fun _ _ _=>trodAll_cons_mk (shut_bool Tryz.underlying4 _) trodAll_mk0) (fun sp hsp=>?_) (fun _ _=>rfl) (by simp) hb
  (ok_one (by kernel_rfl) rfl (okWide_bool_mk Tryz.underlying4 _))⟩
 exact (trodAll_cons_mk (shut_int Tryz.underlying5 w0) (trodAll_cons_mk (stay (by kernel_rfl) (of_decide_eq_true (by kernel_rfl)) h1 (fun x hx=>by simp [hx]) sp hsp) (trodAll_cons_mk (stay (by kernel_rfl) (of_decide_eq_true (by kernel_rfl)) h2 (fun x hx=>by simp [hx]) sp hsp) trodAll_mk0)))
theorem debtBetween_holds:Rows.DebtBetweenSaid:=
 OpenClaim.holds_of_wide 9 Tryz.f9 rfl rfl rfl rfl rfl rfl rfl ⟨rfl,rfl,rfl,rfl,rfl⟩ rfl rfl rfl rfl rfl (by kernel_rfl) Tryz.func9 (by kernel_rfl)
  (of_decide_eq_true (by kernel_rfl)) (by unfold Func.isWrapper;first | (rw [if_pos (by decide +kernel)];kernel_rfl) | (rw [if_neg (by decide +kernel)];exact⟨rfl,rfl⟩))
  (fun os started H enc _=>debtBetween_lifted os started H enc)
end Go.Proofs.YtgmopcncbpdniaaGreat
