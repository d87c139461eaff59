import Derived.Test.YtgmopcncbpdniaaGreatKShelf
import Derived.Test.YtgmopcncbpdniaaGreatKPlainFx
import Derived.Test.YtgmopcncbpdniaaGreatKFig
import Derived.Test.YtgmopcncbpdniaaGreatKAre
import Derived.Test.YtgmopcncbpdniaaGreatKRFails
import Derived.Test.YtgmopcncbpdniaaGreatKQMat
import Derived.Test.YtgmopcncbpdniaaGreatKArcs2
import Derived.Test.YtgmopcncbpdniaaGreatKPlainN
import Derived.Test.YtgmopcncbpdniaaGreatKLives
set_option linter.unusedVariables false
set_option linter.unusedSimpArgs false
namespace Go.Proofs.YtgmopcncbpdniaaGreat
open Go.RowKit
attribute [local go_sem ↓] Go.wp_at_zero Go.wp_at_succ
set_option maxHeartbeats 4000000 in
set_option maxRecDepth 100000 in
theorem lawClears (vx vy:Value) (nx n0:Nat) (m0:Nat->Nat) (x:Nat->Int) (d:Nat->Nat->Int) (w:World) (hx:Ints w vx nx x) (hy:Mat w vy n0 m0 d) (b0:nx<=9223372036854775807) (b1:n0<=9223372036854775807) (b2:∀ i,i<n0->m0 i<=9223372036854775807) :
  Calls Tryz.prog 7 #[vx,vy] w fun e w'=>e = .returned (.bool true)/\Below w.heap.size w w':=by
 have HX:=jj hx;have HY:=jj hy;have B2:=jj b2;clear hx hy b2;go_enter Tryz.func7,Tryz.ntmps7;go_wp2_with fail;refine (cut_any _ nx x _ HX.out b0).mono ?_;rintro e w1 ⟨va1,vk1,rfl,hm1,hb1⟩;have HC:=jj (ints_of_own hm1);have HY:=jj (HY.out.mono hb1 jl);have KW:=jj hb1;clear hm1 hb1 HX;go_wp2_with fail;refine (rows_any _ n0 m0 d _ HY.out b1 B2.out).mono ?_;rintro e w2 ⟨va2,vk2,rfl,hm2,hb2⟩;have HD:=jj hm2;have HC:=jj (HC.out.mono hb2 jl);have KW:=jj (jb KW.out hb2);clear hm2 hb2 HY B2;obtain⟨n,hn⟩:∃ n,n=min n0 9:=⟨_,rfl⟩;obtain⟨nc,hnc⟩:∃ nc,nc=min nx 9:=⟨_,rfl⟩;rw [<-hn] at HD ⊢;rw [<-hnc] at HC ⊢;have hn9:n<=9:=by omega
 have hc9:nc<=9:=by omega
 clear hn hnc b0 b1;have hM:∀ i,i<n->cutM m0 i<=1048576:=fun i _=>cutM_small _ _
 generalize cutM m0=m at HD hM ⊢;have HM:=jj hM;clear hM;by_cases hK:Mkt nc n x m d
 ·have HK:=jj hK;obtain⟨hC,hD,rfl⟩:=hK;have h1:1<=nc:=hD.1;have h8:nc<=8:=hD.2.1;have HCB:=jj hC;have HDB:=jj (inD_debts hD);have HD0:=jj (inD_pos hD);have HD2:=jj (inD_mat HD.out hD);clear hC hD;generalize inD nc d=d2 at HDB HD0 HD2;have HRG:=jj (rng_of HDB.out HCB.out HD0.out);obtain⟨ps,hps⟩:=ps_ex HRG.out h8 HD0.out;have HPS:=jj hps;have HR0:Hid (∀ i j,i<nc->j<nc->d2 i j<=1000):=jj (fun i j hi hj=>(HRG.out.deb i j hi hj).2);have HT0:Hid (∀ i,i<nc->sumF (d2 i) nc<=100000):=jj (fun i hi=>(HRG.out.tot i hi).2);clear hps;go_wp2_with fail;refine (clear_any _ _ nc x (fun _=>nc) d2 ps _ HC.out HD2.out HDB.out HCB.out HD0.out HPS.out).mono ?_;rintro e w3 ⟨q,pa,pk,ss,rfl,hl2,htx,hst,hb2⟩;have HL:=jj hl2;have HPY:=jj (pays_of HRG.out HD0.out HPS.out hl2);have TQ:=jj (txtq_of HRG.out h8 HD0.out HPS.out htx);have ST:Hid (Strs w3 (.slice pa nc pk) nc ss):=jj hst;have HC:=jj (HC.out.mono hb2 jl);have HD:=jj (HD.out.mono hb2 jl);have HD2:=jj (HD2.out.mono hb2 jl);have KW:=jj (jb KW.out hb2);clear hl2 htx hst hb2;go_wp2_with fail;refine (Least_any _ _ nc x (fun _=>nc) d2 _ HC.out HD2.out HDB.out HCB.out HD0.out).mono ?_;rintro e w4 ⟨qa,qk,s2,L,rfl,htx,hmx,⟨hxc,hxl⟩,hst,hb2⟩;have HXC:=jj hxc;have HXL:=jj hxl;have TQ2:Hid (TxtQs nc L s2):=jj ⟨fun j hj=>⟨htx.txt j hj,(hmx j hj).1,(hmx j hj).2⟩⟩;have ST2:Hid (Strs w4 (.slice qa nc qk) nc s2):=jj hst;have ST:=jj (ST.out.mono hb2 jl);have HC:=jj (HC.out.mono hb2 jl);have HD:=jj (HD.out.mono hb2 jl);have HD2:=jj (HD2.out.mono hb2 jl);have KW:=jj (jb KW.out hb2);clear htx hmx hxc hxl hst hb2
  go_upto_region 8 with (first
   | (go_at_call 23;(with_reducible refine (market_any _ _ nc nc x m d true ⟨fun _=>HK.out,fun _=>rfl⟩ _ HC.out HD.out (by omega) (by omega)).mono ?_);rintro e w5 ⟨rfl,hd5⟩;have HC:=jj (HC.out.drawn hd5);have HD2:=jj (HD2.out.drawn hd5);have ST:=jj (ST.out.mono (hd5.below _) jl);have ST2:=jj (ST2.out.mono (hd5.below _) jl);have KW:=jj (KW.out.trans (hd5.below _));clear hd5 HD)
   | (go_at_call 13;(with_reducible refine (lives_true _).mono ?_);rintro e w6 ⟨rfl,hb6⟩;have HC:=jj (HC.out.mono hb6 jl);have HD2:=jj (HD2.out.mono hb6 jl);have ST:=jj (ST.out.mono hb6 jl);have ST2:=jj (ST2.out.mono hb6 jl);have KW:=jj (jb KW.out hb6);clear hb6))
  by_cases h4:4<nc
  ·have e4:decide ((4:Int)<(nc:Int))=true:=by simp;omega
   have e4n:decide (4<nc)=true:=by simpa using h4
   clear HK HXL
   go_upto_region 10 with (first
    | (go_at_call 24;(with_reducible refine (rfails_any _ _ nc x d2 ps _ HC.out HD2.out (by omega) h8 HRG.out HD0.out HPS.out).mono ?_);rintro e w7 ⟨q6,ra,rk,vp,rfl,hl6,hm6,hp6,hb6⟩;obtain rfl:=last_uniq HL.out hl6;have HP:=jj hp6;have HC:=jj (HC.out.mono hb6 jl);have HD2:=jj (HD2.out.mono hb6 jl);have ST:=jj (ST.out.mono hb6 jl);have ST2:=jj (ST2.out.mono hb6 jl);have KW:=jj (jb KW.out hb6);clear hl6 hm6 hp6 hb6))
   have HRC:Hid (RClr nc x d2 L nc):=jj (rclr_of3 HXC.out);have een:(((nc:Nat):Int) == ((nc:Nat):Int))=true:=by simp
   go_wp2_with (first
    | (go_at_call 26;(with_reducible refine (are_true _ _ nc _ ss _ _ ST.out HP.out TQ.out (by omega) (by omega)).mono ?_);rintro e w9 ⟨rfl,hb9⟩;have HC:=jj (HC.out.mono hb9 jl);have HD2:=jj (HD2.out.mono hb9 jl);have ST2:=jj (ST2.out.mono hb9 jl);have KW:=jj (jb KW.out hb9);clear hb9)
    | (go_at_call 31;(with_reducible refine (rnums_any _ nc L s2 _ ST2.out (by omega) TQ2.out).mono ?_);rintro e w10 ⟨rfl,hb9⟩;have HC:=jj (HC.out.mono hb9 jl);have HD2:=jj (HD2.out.mono hb9 jl);have ST2:=jj (ST2.out.mono hb9 jl);have KW:=jj (jb KW.out hb9);clear hb9)
    | (go_at_call 33;(with_reducible refine (qs_any _ nc L s2 _ ST2.out (by omega) TQ2.out).mono ?_);rintro e w11 ⟨za,zk,zx,rfl,hq7,hb7⟩;have QS:=jj (VSl.of (hq7.sl h1));have HC:=jj (HC.out.mono hb7 jl);have HD2:=jj (HD2.out.mono hb7 jl);have KW:=jj (jb KW.out hb7);clear hb7 hq7)
    | (go_at_call 32;(with_reducible refine (rclears_any _ _ _ nc x d2 L 1000 true _ ⟨fun _=>HRC.out,fun _=>rfl⟩ HC.out HD2.out QS.out h8 HCB.out HD0.out HR0.out HT0.out (by omega) (by omega)).mono ?_);rintro e w12 ⟨rfl,hb8⟩;have KW:=jj (jb KW.out hb8);clear hb8))
   go_ret;exact⟨rfl,KW.out⟩
  ·have hn4:nc<=4:=by omega
   have e4:decide ((4:Int)<(nc:Int))=false:=by simp;omega
   have e4n:decide (4<nc)=false:=by simpa using h4
   obtain⟨s0,hs0,hb0⟩:=code_ex (FS nc x d2 ps q) nc;have G1:Hid (FixK false nc x d2 (fun i=>s0.testBit i) (PS nc x d2 ps q)):=jj ⟨fix_great HD0.out hb0 HPY.out⟩;have G2:=jj (fun p (hp:ClrQ nc (cashQ x) (totQ nc d2) (shQ nc d2) p)=>best_great (n:=nc) (cash:=x) (d:=d2) (T:=PS nc x d2 ps q) (fun p hp=>sol_ge (mktQ_of HRG.out HD0.out) HPY.out.rnd HPY.out.sol p hp.tot hp.has) p hp);obtain⟨t0,ht0,hc0⟩:=set_ex (fun i=>L i≠totQ nc d2 i) nc;have L1:Hid (FixK true nc x d2 (fun i=>t0.testBit i) L):=jj ⟨fix_least HRG.out HD0.out HXC.out HXL.out hc0⟩;have L2:=jj (fun p (hp:ClrQ nc (cashQ x) (totQ nc d2) (shQ nc d2) p)=>best_least (n:=nc) (cash:=x) (d:=d2) (T:=L) HXL.out p hp);have HS0:=jj hs0;have HT1:=jj ht0;clear hb0 hc0 HK hs0 ht0 h4
   go_wp2_with (first
    | (go_at_call 34;have HS:=HS0.out;clear HS0;(with_reducible refine (rclear_any _ _ false nc x d2 (PS nc x d2 ps q) s0 _ HC.out HD2.out (by omega) hn4 HCB.out HD0.out HRG.out HS HPY.out.clr G1.out.h G2.out).mono ?_);rintro e w7 ⟨vp,rfl,hp7,hb7⟩;clear HS G1 G2;have HP:=jj hp7;have HC:=jj (HC.out.mono hb7 jl);have HD2:=jj (HD2.out.mono hb7 jl);have ST:=jj (ST.out.mono hb7 jl);have ST2:=jj (ST2.out.mono hb7 jl);have KW:=jj (jb KW.out hb7);clear hb7 hp7)
    | (go_at_call 26;have HPP:=HP.out;clear HP;(with_reducible refine (are_true _ _ nc _ ss _ _ ST.out HPP TQ.out (by omega) (by omega)).mono ?_);rintro e w9 ⟨rfl,hb9⟩;clear HPP;have HC:=jj (HC.out.mono hb9 jl);have HD2:=jj (HD2.out.mono hb9 jl);have ST2:=jj (ST2.out.mono hb9 jl);have KW:=jj (jb KW.out hb9);clear hb9)
    | (go_at_call 34;have HS:=HT1.out;clear HT1;(with_reducible refine (rclear_any _ _ true nc x d2 L t0 _ HC.out HD2.out (by omega) hn4 HCB.out HD0.out HRG.out HS HXC.out L1.out.h L2.out).mono ?_);rintro e w10 ⟨vl,rfl,hp7,hb7⟩;clear HS L1 L2;have HPL:=jj hp7;have ST2:=jj (ST2.out.mono hb7 jl);have KW:=jj (jb KW.out hb7);clear hb7 hp7)
    | (go_at_call 26;have HPP:=HPL.out;clear HPL;(with_reducible refine (are_true _ _ nc _ s2 _ _ ST2.out HPP TQ2.out (by omega) (by omega)).mono ?_);rintro e w11 ⟨rfl,hb9⟩;clear HPP;have KW:=jj (jb KW.out hb9);clear hb9))
   go_ret;exact⟨rfl,KW.out⟩
 ·have HK:=jj hK;clear hK
  go_wp2_with (first
   | (go_at_call 11;(with_reducible refine (clear_no _ _ nc n x m d _ HC.out HD.out (by omega) (by omega) HM.out HK.out).mono ?_);rintro e w3 ⟨rfl,hb3⟩;have HC:=jj (HC.out.mono hb3 jl);have HD:=jj (HD.out.mono hb3 jl);have KW:=jj (jb KW.out hb3);clear hb3)
   | (go_at_call 30;(with_reducible refine (least_no _ _ nc n x m d _ HC.out HD.out (by omega) (by omega) HM.out HK.out).mono ?_);rintro e w4 ⟨rfl,hb4⟩;have HC:=jj (HC.out.mono hb4 jl);have HD:=jj (HD.out.mono hb4 jl);have KW:=jj (jb KW.out hb4);clear hb4)
   | (go_at_call 23;(with_reducible refine (market_any _ _ nc n x m d false ⟨fun e=>Bool.noConfusion e,fun h=>absurd h HK.out⟩ _ HC.out HD.out (by omega) (by omega)).mono ?_);rintro e w5 ⟨rfl,hd5⟩;have KW:=jj (KW.out.trans (hd5.below _));clear hd5)
   | (go_at_call 13;(with_reducible refine (lives_true _).mono ?_);rintro e w6 ⟨rfl,hb6⟩;have KW:=jj (jb KW.out hb6);clear hb6))
  go_ret;exact⟨rfl,KW.out⟩
end Go.Proofs.YtgmopcncbpdniaaGreat
