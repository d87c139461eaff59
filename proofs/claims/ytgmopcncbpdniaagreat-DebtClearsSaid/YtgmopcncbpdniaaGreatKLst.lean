import Derived.Test.YtgmopcncbpdniaaGreatKShelf
import Derived.Test.YtgmopcncbpdniaaGreatKPlainV
set_option linter.unusedVariables false
set_option linter.unusedSimpArgs false
namespace Go.Proofs.YtgmopcncbpdniaaGreat
open Go.RowKit
attribute [local go_sem ↓] Go.wp_at_zero Go.wp_at_succ
theorem three_rows (w:World) (n:Nat):((((w.alloc (.cells (madeCells #[.bool false] n) 4)).alloc (.cells (madeCells #[.bool false] n) 4)).alloc (.cells (madeCells #[.bool false] n) 4)).drew.rowIs w.heap.size 4 n (bF (fun _=>false)))/\((((w.alloc (.cells (madeCells #[.bool false] n) 4)).alloc (.cells (madeCells #[.bool false] n) 4)).alloc (.cells (madeCells #[.bool false] n) 4)).drew.rowIs (w.heap.size+1) 4 n (bF (fun _=>false)))/\((((w.alloc (.cells (madeCells #[.bool false] n) 4)).alloc (.cells (madeCells #[.bool false] n) 4)).alloc (.cells (madeCells #[.bool false] n) 4)).drew.rowIs (w.heap.size+2) 4 n (bF (fun _=>false)))/\Below w.heap.size w (((w.alloc (.cells (madeCells #[.bool false] n) 4)).alloc (.cells (madeCells #[.bool false] n) 4)).alloc (.cells (madeCells #[.bool false] n) 4)).drew:=by
 have h1:=World.rowIs_made w (.bool false) n 4;have h2:=World.rowIs_made (w.alloc (.cells (madeCells #[.bool false] n) 4)) (.bool false) n 4;have h3:=World.rowIs_made ((w.alloc (.cells (madeCells #[.bool false] n) 4)).alloc (.cells (madeCells #[.bool false] n) 4)) (.bool false) n 4;refine⟨(((h1.alloc _).alloc _).drew).congr (fun i hi=>rfl),?_,?_,((((jr w).alloc jl _).alloc (by simp) _).alloc (by simp;omega) _).drew⟩
 ·have:=((h2.alloc (.cells (madeCells #[.bool false] n) 4)).drew).congr (g:=bF (fun _=>false)) (fun i hi=>rfl);simpa using this
 ·have:=(h3.drew).congr (g:=bF (fun _=>false)) (fun i hi=>rfl);simpa using this
set_option maxHeartbeats 16000000 in
set_option maxRecDepth 100000 in
theorem least_any (b n:Nat) (cash:Nat->Int) (d:Nat->Nat->Int) (vc vd vt:Value) (A:Nat->Bool) (fa fc:Nat) (w:World) (hm:IsMkt w b n cash d vc vd vt) (h0:0<n) (hn:n<=8) (hR:Rng n cash d) (hd:∀ i j,0<=d i j) (hF:Bls w fa n A) (hA0:∀ k,k<n->sumF (d k) n=0->A k=true) :
  Calls Tryz.prog 60 #[.pointer (some ⟨b,0,none⟩),.slice (some ⟨fa,0,none⟩) n fc] w fun e w'=>((∃ PB x,e = .returned (.slice (some ⟨PB,0,none⟩) n n)/\RatRow w' PB n x 200/\LsF n cash d A x/\w.heap.size<=PB)\/(e = .returned (.slice none 0 0)/\∀ x,¬ LsF n cash d A x))/\Below w.heap.size w w':=by
 have HM:=jj hm;have HR:=jj hR;have HD:=jj hd;have HA0:=jj hA0;have HF:=jj hF;obtain⟨c0,-,c2,-,-,⟨da,db,do_,dc,ra,rd,ro,rc,rfl,hdm⟩,-,hlt⟩:=hm;have HDM:=jj hdm
 have keepS:Hid (∀ w',Below w.heap.size w w'->w'.cell? ⟨b,0,none⟩=some (.int .i64 (n:Nat))/\w'.cell? ⟨b,2,none⟩=some (.slice da n dc)):=
  jj (fun w' hb=>⟨bel1 hb c0 hlt,bel1 hb c2 hlt⟩)
 clear hR hd hF hA0 hdm c0 c2;go_enter Tryz.func60,Tryz.ntmps60;go_wp2_with (first | (go_at_call 95;(with_reducible refine (money_any b n cash d _ _ _ A fa fc _ HM.out h0 hn HF.out).mono ?_);rintro e w1 ⟨fb,M,rfl,hrow,hmon,hfb,hb1⟩));have OM:=jj hrow;have HMON:=jj hmon;have KW:=jj hb1;clear hrow hmon hb1;obtain⟨wm,rfl⟩:∃ wm:World,wm=w1:=⟨_,rfl⟩;obtain⟨c0,-⟩:=keepS.out _ KW.out;have hltm:b<wm.heap.size:=jm hlt KW.out.size;have hfbm:fb<wm.heap.size:=OM.out.lt;have hmk:=mkBn n (by omega);obtain⟨r0,r1,r2,k3⟩:=three_rows wm n;have R0:=jj r0;have R1:=jj r1;have R2:=jj r2;have K3:=jj k3;clear r0 r1 r2 k3
 go_cut [6,7,8] (fun v6 v7 v8 wx=>∃ pb nb lb:Nat,v6 = .slice (some ⟨pb,0,none⟩) n n/\v7 = .slice (some ⟨nb,0,none⟩) n n/\v8 = .slice (some ⟨lb,0,none⟩) n n/\Hid (wx.rowIs pb 4 n (bF (fun _=>false)))/\Hid (wx.rowIs nb 4 n (bF (fun _=>false)))/\Hid (wx.rowIs lb 4 n (bF (fun _=>false)))/\pb≠nb/\pb≠lb/\nb≠lb/\wm.heap.size<=pb/\wm.heap.size<=nb/\wm.heap.size<=lb/\Hid (Below wm.heap.size wm wx))
 case first=>
  go_region
  all_goals
   go_wp2_with fail;go_meet
   case rel=>
    first
    | (refine⟨wm.heap.size,wm.heap.size+1,wm.heap.size+2,?_,?_,?_,R0,R1,R2,by omega,by omega,by omega,by omega,by omega,by omega,K3⟩ <;> first | rfl | (simp;done))
    | (refine⟨wm.heap.size,wm.heap.size+2,wm.heap.size+1,?_,?_,?_,R0,R2,R1,by omega,by omega,by omega,by omega,by omega,by omega,K3⟩ <;> first | rfl | (simp;done))
    | (refine⟨wm.heap.size+1,wm.heap.size,wm.heap.size+2,?_,?_,?_,R1,R0,R2,by omega,by omega,by omega,by omega,by omega,by omega,K3⟩ <;> first | rfl | (simp;done))
    | (refine⟨wm.heap.size+1,wm.heap.size+2,wm.heap.size,?_,?_,?_,R1,R2,R0,by omega,by omega,by omega,by omega,by omega,by omega,K3⟩ <;> first | rfl | (simp;done))
    | (refine⟨wm.heap.size+2,wm.heap.size,wm.heap.size+1,?_,?_,?_,R2,R0,R1,by omega,by omega,by omega,by omega,by omega,by omega,K3⟩ <;> first | rfl | (simp;done))
    | (refine⟨wm.heap.size+2,wm.heap.size+1,wm.heap.size,?_,?_,?_,R2,R1,R0,by omega,by omega,by omega,by omega,by omega,by omega,K3⟩ <;> first | rfl | (simp;done))
 case rest=>
  clear R0 R1 R2 K3 hmk c0;obtain⟨pb,nb,lb,rfl,rfl,rfl,OP,ON,OL,hpn,hpl,hnl,hpb,hnb,hlb,K3⟩:=hcut;obtain⟨wb,rfl⟩:∃ wb:World,wb=wc:=⟨_,rfl⟩;have OM:=jj (rowIs_below OM.out K3.out OM.out.lt);have hmw:=KW.out.size;have hfl:=HF.out.lt;have OP:Hid (wb.rowIs pb 4 n (bF (fun j=>decide (j<0) && (!A j && M j)))):=jj (OP.out.congr (fun i hi=>by simp [bF]));have ON:Hid (wb.rowIs nb 4 n (bF (fun j=>decide (j<0) && (!A j && !M j)))):=jj (ON.out.congr (fun i hi=>by simp [bF]));have OL:Hid (wb.rowIs lb 4 n (bF (fun j=>decide (j<0) && A j))):=jj (OL.out.congr (fun i hi=>by simp [bF]));have KB:=jj (jb KW.out K3.out);have n1:nb≠pb:=Ne.symm hpn;have n2:lb≠pb:=Ne.symm hpl;have n3:lb≠nb:=Ne.symm hnl;have n4:fb≠pb:=by omega
  have n5:fb≠nb:=by omega
  have n6:fb≠lb:=by omega
  have n7:fa≠pb:=by omega
  have n8:fa≠nb:=by omega
  have n9:fa≠lb:=by omega
  have hpw:w.heap.size<=pb:=by omega
  have hnw:w.heap.size<=nb:=by omega
  have hlw:w.heap.size<=lb:=by omega
  clear K3 hmw;obtain⟨c0,-⟩:=keepS.out _ KB.out;go_wp2;clear c0;go_loopw [37] (fun v37 wr=>∃ k:Nat,k<=n/\v37 = .int .i64 (k:Nat)/\Hid (wr.rowIs pb 4 n (bF (fun j=>decide (j<k) && (!A j && M j))))/\Hid (wr.rowIs nb 4 n (bF (fun j=>decide (j<k) && (!A j && !M j))))/\Hid (wr.rowIs lb 4 n (bF (fun j=>decide (j<k) && A j)))/\Hid (wr.rowIs fb 4 n (bF M))/\Hid (Below w.heap.size w wr)) (fun v37 _=>n - (intOf v37).toNat)
  case atStart=>exact⟨0,by omega,rfl,OP,ON,OL,OM,KB⟩
  case round=>
   clear OP ON OL OM KB KW;obtain⟨k,hk,rfl,OP,ON,OL,OM,KW⟩:=hrel;by_cases h:k<n
   ·have e1:decide ((k:Int)<(n:Int))=true:=by simpa using h
    have e1n:decide (k<n)=true:=by simpa using h
    have ixa:=fun W=>ixB fa n fc k h W
    have ixm:=fun W=>ixB fb n n k h W
    have ixp:=fun W=>ixB pb n n k h W
    have ixn:=fun W=>ixB nb n n k h W
    have ixl:=fun W=>ixB lb n n k h W
    have ya:=bel1 KW.out (HF.out.cell k h) HF.out.lt;have ym:=OM.out.cell h;have yp:=OP.out.cell h;have yn:=ON.out.cell h;have yl:=OL.out.cell h;have fp:=OP.out.frozen k;have fn:=ON.out.frozen k;have fl:=OL.out.frozen k;simp only [bF] at ym yp yn yl;rcases hA:A k with _ | _ <;> rcases hM:M k with _ | _ <;> rw [hA] at ya <;> rw [hM] at ym
    all_goals
     go_wp2;go_roundw
     case rel=>
      refine⟨k+1,by omega,by go_num,jj (((((OP.out.set k _).setOther hpn _).setOther hpl _)).congr (fun i hi=>?_)),jj (((((ON.out.setOther n1 _).set k _).setOther hnl _)).congr (fun i hi=>?_)),jj (((((OL.out.setOther n2 _).setOther n3 _).set k _)).congr (fun i hi=>?_)),jj (((OM.out.setOther n4 _).setOther n5 _).setOther n6 _),jj (((KW.out.setCell hpw _).setCell hnw _).setCell hlw _)⟩
      all_goals
       unfold bF;by_cases e:i=k
       ·subst e;simp [hA,hM]
       ·rw [if_neg e];by_cases e2:i<k
        ·simp [e2,show i<k+1 by omega]
        ·simp [e2,show ¬ i<k+1 by omega]
     case measure=>simp [intOf];omega
   ·obtain rfl:n=k:=by omega
    have e1:decide ((n:Int)<(n:Int))=false:=by simp
    obtain⟨P,hPe⟩:∃ P,P=(fun j=>decide (j<n) && (!A j && M j)):=⟨_,rfl⟩;obtain⟨N,hNe⟩:∃ N,N=(fun j=>decide (j<n) && (!A j && !M j)):=⟨_,rfl⟩;obtain⟨L,hLe⟩:∃ L,L=(fun j=>decide (j<n) && A j):=⟨_,rfl⟩;rw [<-hPe] at OP;rw [<-hNe] at ON;rw [<-hLe] at OL;have HPI:Hid (∀ k,k<n->(P k=true↔A k=false/\MonI n cash d A k)):=jj (fun k hk=>by rw [hPe,<-HMON.out k hk];simp [hk]);have HNI:Hid (∀ k,k<n->(N k=true↔A k=false/\¬ MonI n cash d A k)):=jj (fun k hk=>by rw [hNe,<-HMON.out k hk];simp [hk]);have ST0:Hid (LSt n d P A L true):=jj (LSt.start (fun k hk=>by rw [hLe];simp [hk]));clear hPe hNe hLe OM HMON n4 n5 n6;go_wp2
    go_loopg [10] (2*n+1) (fun g v10 wr=>∃ (L:Nat->Bool) (more:Bool),v10 = .bool more/\2*(n - rankF L n)+(if more then 1 else 0)<=g/\Hid (wr.rowIs pb 4 n (bF P))/\Hid (wr.rowIs nb 4 n (bF N))/\Hid (wr.rowIs lb 4 n (bF L))/\Hid (LSt n d P A L more)/\Hid (Below w.heap.size w wr))
    case atStart=>exact⟨L,true,rfl,by simp;omega,OP,ON,OL,ST0,KW⟩
    case round=>
     clear OP ON OL ST0 KW;obtain⟨L,more,rfl,hgk,OP,ON,OL,ST,KW⟩:=hrel;rcases more with _ | _
     ·clear hgk;obtain⟨c0,-⟩:=keepS.out _ KW.out;obtain⟨wf,rfl⟩:∃ wf:World,wf=wr:=⟨_,rfl⟩;go_wp2;clear c0
      go_loop [131] (fun v131=>∃ k:Nat,k<=n/\v131 = .int .i64 (k:Nat)/\Hid (∀ i,i<k->P i=true->L i=true)) (fun v131=>n - (intOf v131).toNat)
      case atStart=>exact⟨0,by omega,rfl,jj (fun i hi=>by omega)⟩
      case round=>
       obtain⟨k,hk,rfl,HG⟩:=hrel;by_cases h1:k<n
       ·have e2:decide ((k:Int)<(n:Int))=true:=by simpa using h1
        have e2n:decide (k<n)=true:=by simpa using h1
        have ixp:=fun W=>ixB pb n n k h1 W
        have ixl:=fun W=>ixB lb n n k h1 W
        have yp:=OP.out.cell h1;have yl:=OL.out.cell h1;simp only [bF] at yp yl;rcases hPk:P k with _ | _
        ·rw [hPk] at yp;go_wp2
         go_round
         case rel=>exact⟨k+1,by omega,by go_num,jj (ext_lt HG.out (fun q=>by rw [hPk] at q;cases q))⟩
         case measure=>simp [intOf];omega
        ·rcases hLk:L k with _ | _
         ·rw [hPk] at yp;rw [hLk] at yl;have HPk:=jj hPk;have HLk:=jj hLk;clear hPk hLk;go_wp2;go_ret;exact⟨.inr ⟨rfl,ls_stuck HD.out HA0.out HPI.out ST.out h1 HPk.out HLk.out⟩,KW.out⟩
         ·rw [hPk] at yp;rw [hLk] at yl;have HLk:=jj hLk;go_wp2
          go_round
          case rel=>exact⟨k+1,by omega,by go_num,jj (ext_lt HG.out (fun _=>HLk.out))⟩
          case measure=>simp [intOf];omega
       ·obtain rfl:n=k:=by omega
        have e2:decide ((n:Int)<(n:Int))=false:=by simp
        have hnc:=ls_nc HD.out HPI.out ST.out HG.out;obtain⟨x,p,hrd⟩:=rdyG_of HR.out hn HD.out N hnc;have HNC:=jj hnc;have RD:=jj hrd;have HFC:=jj (ls_face HD.out HPI.out HNI.out hrd.sol);have HNF:=jj (nc_iff HD.out HPI.out hnc);clear hnc hrd ST HG;have HMr:=jj (HM.out.mono KW.out jl)
        obtain⟨r,hr⟩:∃ r:Bool,r=true↔∀ i,i<n->GdQ n cash d p i:=by
         by_cases q:∀ i,i<n->GdQ n cash d p i
         ·exact⟨true,⟨fun _=>q,fun _=>rfl⟩⟩
         ·exact⟨false,⟨fun e=>Bool.noConfusion e,fun e=>absurd e q⟩⟩
        have HRR:=jj hr;clear hr;rcases r with _ | _
        ·have HNO:Hid (∀ x,¬ LsF n cash d A x):=jj (fun y hy=>by
          have e:=face_uniq HR.out HD.out HNF.out hy.face HFC.out;have:=HRR.out.2 ((gd_iff HR.out HD.out).2 (hy.clr.congr e));cases this)
         go_wp2_with (first
          | (go_at_call 71;go_loud ((with_reducible refine (solve_any b n cash d _ _ _ P N pb n nb n x 25000000 200 _ HMr.out h0 hn HR.out (bls_of OP.out) (bls_of ON.out) RD.out.piv RD.out.siz (by omega) (by omega) RD.out.res RD.out.small (by omega)).mono ?_);rintro e w4 ⟨PB,rfl,PR1,hPw,hb4⟩;have PR:Hid (RatRow w4 PB n p 200):=jj (PR1.congr (fun j hj _=>⟨trivial,(RD.out.pay j).symm⟩));have HMs:=jj (HMr.out.mono hb4 jl);have HPW:Hid (w.heap.size<=PB):=jj (Nat.le_trans KW.out.size hPw);have KW:=jj (jb KW.out hb4);clear PR1 hPw hb4))
          | (go_at_call 67;(with_reducible refine (mclr_any b n n PB cash d _ _ _ p 200 _ HRR.out _ HMs.out hn HR.out PR.out.rats (by omega) (by omega)).mono ?_);rintro e w5 ⟨rfl,hb5⟩;have PR:=jj (PR.out.below hb5 jl);have KW:=jj (jb KW.out hb5);clear hb5))
         go_ret;exact⟨.inr ⟨rfl,HNO.out⟩,KW.out⟩
        ·have HGD:=jj (HRR.out.1 rfl);have HYES:Hid (LsF n cash d A p):=jj ⟨HNF.out,HFC.out,(gd_iff HR.out HD.out).1 (HRR.out.1 rfl)⟩
         go_wp2_with (first
          | (go_at_call 71;go_loud ((with_reducible refine (solve_any b n cash d _ _ _ P N pb n nb n x 25000000 200 _ HMr.out h0 hn HR.out (bls_of OP.out) (bls_of ON.out) RD.out.piv RD.out.siz (by omega) (by omega) RD.out.res RD.out.small (by omega)).mono ?_);rintro e w4 ⟨PB,rfl,PR1,hPw,hb4⟩;have PR:Hid (RatRow w4 PB n p 200):=jj (PR1.congr (fun j hj _=>⟨trivial,(RD.out.pay j).symm⟩));have HMs:=jj (HMr.out.mono hb4 jl);have HPW:Hid (w.heap.size<=PB):=jj (Nat.le_trans KW.out.size hPw);have KW:=jj (jb KW.out hb4);clear PR1 hPw hb4))
          | (go_at_call 67;(with_reducible refine (mclr_any b n n PB cash d _ _ _ p 200 true ⟨fun _=>HGD.out,fun _=>rfl⟩ _ HMs.out hn HR.out PR.out.rats (by omega) (by omega)).mono ?_);rintro e w5 ⟨rfl,hb5⟩;have PR:=jj (PR.out.below hb5 jl);have KW:=jj (jb KW.out hb5);clear hb5))
         go_ret;exact⟨.inl ⟨PB,p,rfl,PR.out,HYES.out,HPW.out⟩,KW.out⟩
     ·have HGK:Hid (2*(n - rankF L n)+1<=gk):=jj (by simpa using hgk);clear hgk;obtain⟨c0,-⟩:=keepS.out _ KW.out;have LR0:=jj ST.out.rel;go_wp2;clear c0;go_loopw [10,82] (fun v10 v82 wr=>∃ i:Nat,i<=n/\v82 = .int .i64 (i:Nat)/\∃ (L1:Nat->Bool) (more:Bool),v10 = .bool more/\Hid (wr.rowIs pb 4 n (bF P))/\Hid (wr.rowIs nb 4 n (bF N))/\Hid (wr.rowIs lb 4 n (bF L1))/\Hid (LRel n d P A L L1 more i 0)/\Hid (Below w.heap.size w wr)) (fun _ v82 _=>n - (intOf v82).toNat)
      case atStart=>exact⟨0,by omega,rfl,L,false,rfl,OP,ON,OL,LR0,KW⟩
      case round=>
       clear OP ON OL LR0 KW ST;obtain⟨i,hi,rfl,L1,more,rfl,OP,ON,OL,LR,KW⟩:=hrel;by_cases h1:i<n
       ·have e2:decide ((i:Int)<(n:Int))=true:=by simpa using h1
        have e2n:decide (i<n)=true:=by simpa using h1
        obtain⟨c0,-⟩:=keepS.out _ KW.out;go_wp2;clear c0;go_loopw [10,89] (fun v10 v89 wr=>∃ j:Nat,j<=n/\v89 = .int .i64 (j:Nat)/\∃ (L1:Nat->Bool) (more:Bool),v10 = .bool more/\Hid (wr.rowIs pb 4 n (bF P))/\Hid (wr.rowIs nb 4 n (bF N))/\Hid (wr.rowIs lb 4 n (bF L1))/\Hid (LRel n d P A L L1 more i j)/\Hid (Below w.heap.size w wr)) (fun _ v89 _=>n - (intOf v89).toNat)
        case atStart=>exact⟨0,by omega,rfl,L1,more,rfl,OP,ON,OL,LR,KW⟩
        case round=>
         clear OP ON OL LR KW;obtain⟨j,hj,rfl,L1,more,rfl,OP,ON,OL,LR,KW⟩:=hrel;by_cases h2:j<n
         ·have e3:decide ((j:Int)<(n:Int))=true:=by simpa using h2
          have e3n:decide (j<n)=true:=by simpa using h2
          obtain⟨-,y2⟩:=keepS.out _ KW.out;have ixm:=fun W=>ixM HDM.out.top i dc h1 W
          have ixr:=fun W=>ixI (HDM.out.row i h1) j (rc i) h2 W
          have hM1:=HDM.out.mono KW.out jl;have z0:=hM1.top.cell i h1;have z1:=(hM1.row i h1).cell j h2;simp only [ic] at z1;have ixp:=fun W=>ixB pb n n i h1 W
          have ixi:=fun W=>ixB lb n n i h1 W
          have ixj:=fun W=>ixB lb n n j h2 W
          have cp:=OP.out.cell h1;have ci:=OL.out.cell h1;have cj:=OL.out.cell h2;have ff:=OL.out.frozen i;simp only [bF] at cp ci cj;clear hM1;rcases hPi:P i with _ | _
          ·rw [hPi] at cp;go_wp2;go_roundw
           case rel=>exact⟨j+1,by omega,by go_num,L1,more,rfl,OP,ON,OL,jj (LR.out.skip (fun q=>by rw [hPi] at q;exact absurd q.1 (by decide))),KW⟩
           case measure=>simp [intOf];omega
          ·rw [hPi] at cp;rcases hLi:L1 i with _ | _ <;> rcases hd:decide (0<d i j) with _ | _ <;> rcases hLj:L1 j with _ | _ <;> rw [hLi] at ci <;> rw [hLj] at cj
           all_goals
            go_wp2;go_roundw
            case rel=>
             first
             | exact⟨j+1,by omega,by go_num,L1,more,rfl,OP,ON,OL,jj (LR.out.skip (fun q=>by simp [hLi,hLj] at q;simp [q] at hd)),KW⟩
             | exact⟨j+1,by omega,by go_num,L1,more,rfl,OP,ON,OL,jj (LR.out.skip (fun q=>by simp [hLi,hLj] at q)),KW⟩
             | exact⟨j+1,by omega,by go_num,_,true,rfl,jj (OP.out.setOther hpl _),jj (ON.out.setOther hnl _),jj ((OL.out.set i _).congr (fun k hk=>by unfold bF;by_cases e:k=i <;> simp [e])),jj (LR.out.set h1 h2 (by simpa using hd) hLi hLj),jj (KW.out.setCell hlw _)⟩
            case measure=>simp [intOf];omega
         ·obtain rfl:n=j:=by omega
          have e3:decide ((n:Int)<(n:Int))=false:=by simp
          go_wp2;go_roundw
          case rel=>exact⟨i+1,by omega,by go_num,L1,more,rfl,OP,ON,OL,jj LR.out.row,KW⟩
          case measure=>simp [intOf];omega
       ·obtain rfl:n=i:=by omega
        have e2:decide ((n:Int)<(n:Int))=false:=by simp
        go_wp2
        go_roundg (2*(n - rankF L1 n)+(if more then 1 else 0))
        case measure=>exact LR.out.less HGK.out
        case rel=>exact⟨L1,more,rfl,Nat.le_refl _,OP,ON,OL,jj LR.out.st,KW⟩
end Go.Proofs.YtgmopcncbpdniaaGreat
