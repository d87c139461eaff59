import Derived.Test.YtgmopcncbpdniaaGreatKShelf
import Derived.Test.YtgmopcncbpdniaaGreatKReach2
import Derived.Test.YtgmopcncbpdniaaGreatKRefN
import Derived.Test.YtgmopcncbpdniaaGreatKCopy
import Derived.Test.YtgmopcncbpdniaaGreatKQMat
import Derived.Test.YtgmopcncbpdniaaGreatKPlainT
import Derived.Test.YtgmopcncbpdniaaGreatKPlainW
import Derived.Test.YtgmopcncbpdniaaGreatKGrp2
set_option maxHeartbeats 8000000
set_option linter.unusedVariables false
set_option linter.unusedSimpArgs false
namespace Go.Proofs.YtgmopcncbpdniaaGreat
open Go.RowKit
attribute [local go_sem ↓] Go.wp_at_zero Go.wp_at_succ
set_option maxRecDepth 100000 in
theorem rounds_any (b n:Nat) (cash:Nat->Int) (d:Nat->Nat->Int) (vc vd vt:Value) (ps:(Nat->Bool)->Nat->Rat) (w:World) (hm:IsMkt w b n cash d vc vd vt) (h0:0<n) (hn:n<=8) (hR:Rng n cash d) (hd:∀ i j,0<=d i j) (hps:PsOK n cash d ps) :
  Calls Tryz.prog 39 #[.pointer (some ⟨b,0,none⟩)] w fun e w'=>∃ q va vk ra rc P,e = .returned (.tuple #[.slice va q vk,.slice (some ⟨P,0,none⟩) n n])/\q<=n/\(∀ r,r<q->0<rwM n cash d ps r)/\rwM n cash d ps q=0/\
   RowsIn w.heap.size w' q (.slice va q vk) ra rc (rwM n cash d ps) (rwF n cash d ps)/\RatRow w' P n (PS n cash d ps q) 200/\Below w.heap.size w w':=by
 have HM:=jj hm;have HR:=jj hR;have HD:=jj hd;have HPS:=jj hps;obtain⟨c0,-,-,c3,-,-,⟨ta,tb,t_o,tc,rfl,hts⟩,hlt⟩:=hm;have HTS:=jj hts
 have keepS:Hid (∀ w',Below w.heap.size w w'->w'.cell? ⟨b,0,none⟩=some (.int .i64 (n:Nat))/\w'.cell? ⟨b,3,none⟩=some (.slice ta n tc)):=
  jj (fun w' hb=>⟨bel1 hb c0 hlt,bel1 hb c3 hlt⟩)
 obtain⟨i0,hi,hz0,hz1,hz2⟩:=info_parts infoI;obtain⟨j0,hj,hy0,hy1,hy2⟩:=info_parts infoM;have hmk:=mkBn n (by omega);have heq1:=eql_nil_some;have heq2:=eql_nil_none;have R1:=jj ((World.rowIs_made w (.bool false) n 4).congr (g:=bF (fun _=>false)) (fun i hi=>rfl));have R2:=jj ((World.rowIs_made (w.alloc (.cells (madeCells #[.bool false] n) 4)) (.bool false) n 4).congr (g:=bF (fun _=>false)) (fun i hi=>rfl));have KB2:=jj (boxes2 w (.cells (madeCells #[.bool false] n) 4) (.cells (madeCells #[.bool false] n) 4));clear hR hd hps hts c3;go_enter Tryz.func39,Tryz.ntmps39;go_wp2
 go_cut [4,5] (fun v4 v5 wx=>∃ fb nb:Nat,v4 = .slice (some ⟨fb,0,none⟩) n n/\v5 = .slice (some ⟨nb,0,none⟩) n n/\Hid (wx.rowIs fb 4 n (bF (fun _=>false)))/\Hid (wx.rowIs nb 4 n (bF (fun _=>false)))/\fb≠nb/\w.heap.size<=fb/\w.heap.size<=nb/\Hid (Below w.heap.size w wx))
 case first=>
  go_region
  all_goals
   go_wp2_with fail;go_meet
   case rel=>
    first
    | exact⟨w.heap.size,w.heap.size+1,rfl,by simp,jj ((R1.out.alloc _).drew),jj (by have:=R2.out.drew;simpa using this),by omega,by omega,by omega,jj KB2.out.drew⟩
    | exact⟨w.heap.size+1,w.heap.size,by simp,rfl,jj (by have:=R2.out.drew;simpa using this),jj ((R1.out.alloc _).drew),by omega,by omega,by omega,jj KB2.out.drew⟩
 case rest=>
  obtain⟨fb,nb,rfl,rfl,OF,ON,hne,hfb,hnb,KW⟩:=hcut;clear c0 R1 R2 KB2;obtain⟨wb,rfl⟩:∃ wb:World,wb=wc:=⟨_,rfl⟩;have HFB:=jj OF.out.lt;have HNB:=jj ON.out.lt;have HWB:=jj KW.out.size;have G0:Hid (RowsIn wb.heap.size wb 0 (.slice none 0 0) (fun _=>none) (fun _=>0) (rwM n cash d ps) (rwF n cash d ps)):=jj (RowsIn.start (World.ownsRow_nil _ _ _ _));have OF:Hid (wb.rowIs fb 4 n (bF (FS n cash d ps 0))):=OF;go_wp2
  go_loopw [6,7,8,9,11,30,63,64,65] (fun v6 v7 v8 v9 v11 v30 v63 v64 v65 wr=>∃ q:Nat,Hid (∀ r,r<q->0<rwM n cash d ps r)/\Hid (q<=rankF (FS n cash d ps q) n)/\∃ va vk ra rc,v6 = .slice va q vk/\Hid (RowsIn wb.heap.size wr q (.slice va q vk) ra rc (rwM n cash d ps) (rwF n cash d ps))/\
   Hid (wr.rowIs fb 4 n (bF (FS n cash d ps q)))/\Hid (wr.rowIs nb 4 n (bF (fun _=>false)))/\Hid (Below w.heap.size w wr)/\Hid (wb.heap.size<=wr.heap.size)) (fun v6 _ _ _ _ _ _ _ _ _=>match v6 with | .slice _ q _=>n+1 - q | _=>0)
  case atStart=>exact⟨0,jj (fun r hr=>by omega),jj (Nat.zero_le _),none,0,_,_,rfl,G0,OF,ON,KW,jj jl⟩
  case round=>
   clear G0 OF ON KW;obtain⟨q,HQ,HQR,va,vk,ra,rc,rfl,G,OF,ON,KW,HWW⟩:=hrel;obtain⟨x,hx⟩:=ps_rdy HPS.out HR.out HD.out q;have HRD:=jj hx;clear hx;have HMr:=jj (HM.out.mono KW.out jl)
   go_wp2_with (first
    | (go_at_call 71;go_loud ((with_reducible refine (solve_any b n cash d _ _ _ (FS n cash d ps q) (fun _=>false) fb n nb n x 25000000 200 _ HMr.out h0 hn HR.out (bls_of OF.out) (bls_of ON.out) HRD.out.piv HRD.out.siz (by omega) (by omega) HRD.out.res HRD.out.small (by omega)).mono ?_);rintro e w1 ⟨P,rfl,PR1,hPw,hb1⟩;have PR:Hid (RatRow w1 P n (PS n cash d ps q) 200):=jj (PR1.congr (fun j hj _=>⟨trivial,(HRD.out.pay j).symm⟩));have G:=jj (G.out.below hb1);have OF:=jj (rowIs_below OF.out hb1 OF.out.lt);have ON:=jj (rowIs_below ON.out hb1 ON.out.lt);have KW:=jj (jb KW.out hb1);have HWW:=jj (Nat.le_trans HWW.out hb1.size);clear PR1 hPw hb1;have d0:=(keepS.out _ KW.out).1)))
   obtain⟨ws,rfl⟩:∃ ws:World,ws=w1:=⟨_,rfl⟩;have VS0:=jj (jr ws);have HOL:=jj OF.out.lt;have HWS:=jj KW.out.size;clear d0
   go_loopw [8,9,30] (fun v8 v9 v30 wi=>∃ i:Nat,i<=n/\v30 = .int .i64 (i:Nat)/\∃ na nk,v8 = .slice na (rankF (NW n cash d ps q) i) nk/\Hid (wi.ownsRow ws.heap.size 3 1 (.slice na (rankF (NW n cash d ps q) i) nk) (rankF (NW n cash d ps q) i) (ics (rwF n cash d ps q) (rankF (NW n cash d ps q) i)))/\
    Hid (rankF (NW n cash d ps q) i=0->na=none/\nk=0)/\Hid (Below ws.heap.size ws wi)) (fun _ _ v30 _=>n - (intOf v30).toNat)
   case atStart=>exact⟨0,by omega,rfl,none,0,rfl,jj (World.ownsRow_nil _ _ _ _),jj (fun _=>⟨rfl,rfl⟩),VS0⟩
   case round=>
    clear VS0;obtain⟨i,hin,rfl,na,nk,rfl,NO,HNN,VL⟩:=hrel;by_cases h:i<n
    ·have e1:decide ((i:Int)<(n:Int))=true:=by simpa using h
     have e1n:decide (i<n)=true:=by simpa using h
     have ib:=fun W=>ixB fb n n i h W
     have ixt:=fun W=>ixI HTS.out i tc h W
     obtain⟨Ti,hTi⟩:∃ Ti,Ti=sumF (d i) n:=⟨_,rfl⟩;have qt:=(HTS.out.mono KW.out jl).cell i h;simp only [ic] at qt;rw [<-hTi] at qt;have HQT:=jj qt;have HQL:=jj ((HTS.out.mono KW.out jl).lt h0);have HTi:=jj hTi;have hTr:=HR.out.tot i h;rw [<-hTi] at hTr;clear hTi qt;have HFI:=jj (OF.out.cell h);obtain⟨wi,rfl⟩:∃ wi:World,wi=wr:=⟨_,rfl⟩;have KWi:=jj (jb KW.out VL.out);have PRi:=jj (PR.out.below VL.out jl)
     have keepR:Hid (∀ w',Below wi.heap.size wi w'->w'.cell? ⟨fb,i,none⟩=some (.bool (FS n cash d ps q i))/\w'.cell? ⟨b,3,none⟩=some (.slice ta n tc)/\w'.cell? ⟨tb,t_o+i,none⟩=some (.int .i64 Ti)):=
      jj (fun w' hb=>⟨bel1 hb (bel1 VL.out HFI.out HOL.out) (by have:=VL.out.size;have:=HOL.out;omega),bel1 hb (keepS.out _ KWi.out).2 (by have:=HWS.out;have:=VL.out.size;omega),bel1 hb (bel1 VL.out HQT.out HQL.out) (by have:=VL.out.size;have:=HQL.out;omega)⟩)
     have HCS:Hid (0<=cash i/\cash i<=100000):=jj (by have:=HR.out.csh i h;omega);have HDS:Hid (∀ j,j<n->0<=d j i/\d j i<=1000/\0<=sumF (d j) n/\sumF (d j) n<=100000):=jj (fun j hj=>⟨(HR.out.deb j i hj h).1,(HR.out.deb j i hj h).2,(HR.out.tot j hj).1,(HR.out.tot j hj).2⟩);go_wp2
     go_cut [53] (fun v53 wx=>v53 = .bool (NW n cash d ps q i)/\Hid (Below wi.heap.size wi wx))
     case first=>
      have VL0:=jj (jr wi);have VL:=jj VL0.out.drew;rcases hFi:FS n cash d ps q i with _ | _
      ·have HNW:Hid (decide (cmpQ (hasQ n cash d (PS n cash d ps q) i) ((Ti:Int):Rat)<0)=NW n cash d ps q i):=jj (by rw [cmpQ_lt,nw_iff,hFi,HTi.out];simp [hasQ_eq,totQ];exact decide_eq_decide.2 Iff.rfl);rw [hFi] at keepR;clear hFi
       go_region_held3 (fun w'=>w'.cell? ⟨fb,i,none⟩=some (.bool false)/\w'.cell? ⟨b,3,none⟩=some (.slice ta n tc)/\w'.cell? ⟨tb,t_o+i,none⟩=some (.int .i64 Ti))
        (first | (with_reducible exact keepR.out _ VL0.out) | (with_reducible exact keepR.out _ VL.out))
        (first
        | (go_at_call 51;(with_reducible refine (has_any b n i cash d _ _ _ _ (HM.out.mono (jb KWi.out VL.out) jl) h hn HDS.out HCS.out P 0 n (PS n cash d ps q) 200 (PRi.out.below VL.out jl).rats (by omega) (by omega)).mono ?_);rintro e wa ⟨ra',rfl,hra,hba⟩;obtain⟨sa,aa,na',ea,ba,ma,da,rfl,KH⟩:=hra.shape;clear hra;(try have KT:=jj (KT.out.mono hba jl));have VL:=jj (jb VL.out hba))
        | (go_at_call 59;(with_reducible refine (rat_whole Ti (by omega) (by omega) _).mono ?_);rintro e wt ⟨rt,rfl,hrt,hbt⟩;obtain⟨st,at_,nt,et,bt,mt,dt,rfl,KT⟩:=hrt.shape;clear hrt;(try have KH:=jj (KH.out.mono hbt jl));have VL:=jj (jb VL.out hbt))
        | (go_at_call 62;(with_reducible refine (rat_cmp_val _ _ (hasQ n cash d (PS n cash d ps q) i) ((Ti:Int):Rat) (512*(200+1)) _ _ KH.out (KT.out.le (by omega)) (by omega) rfl).mono ?_);rintro e wc ⟨rfl,hbc⟩;have VL:=jj (jb VL.out hbc)))
       all_goals
        go_wp2_with fail;go_meet
        case rel=>exact⟨by rw [HNW.out],VL⟩
      ·have HNW:Hid (NW n cash d ps q i=false):=jj (by rw [nw_iff,hFi];rfl);rw [hFi] at keepR;clear hFi;have f0:=(keepR.out _ VL0.out).1
       go_quiet (fail)
       all_goals
        go_wp2_with fail;go_meet
        case rel=>exact⟨by rw [HNW.out],jj (VL0.out.trans ((Drawn.of _ _).below _))⟩
     case rest=>
      obtain⟨rfl,VL2⟩:=hcut;clear keepR HFI HQT HQL HCS HDS ib ixt;have NO:=jj (own_kept NO.out VL2.out);have VL:=jj (jb VL.out VL2.out);clear VL2 PRi KWi;rcases hNi:NW n cash d ps q i with _ | _
      ·have hrk:rankF (NW n cash d ps q) (i+1)=rankF (NW n cash d ps q) i:=by rw [rankF_succ,hNi];simp
       have HRK:=jj hrk;clear hrk;go_wp2;go_roundw
       case rel=>exact⟨i+1,by omega,by go_num,na,nk,by rw [HRK.out],jj (by rw [HRK.out];exact NO.out),jj (by rw [HRK.out];exact HNN.out),VL⟩
       case measure=>simp [intOf];omega
      ·have hrk:rankF (NW n cash d ps q) (i+1)=rankF (NW n cash d ps q) i+1:=by rw [rankF_succ,hNi];simp
       have HRK:=jj hrk;have hle:rankF (NW n cash d ps q) i<=i:=rankF_le _ i;have HFR:Hid (rwF n cash d ps q (rankF (NW n cash d ps q) i)=(i:Int)):=jj (by unfold rwF frN;rw [(frL_rank (NW n cash d ps q) n i h hNi).2]);obtain⟨rk,hrk2⟩:∃ rk,rk=rankF (NW n cash d ps q) i:=⟨_,rfl⟩;rw [<-hrk2] at NO HFR HRK hle;rw [<-hrk2];clear hrk hrk2 HNN;have HA3:Hid (ws.heap.size<=(wc.alloc (.cells #[.int .i64 (i:Int)] 3)).heap.size):=jj (by have:=VL.out.size;simp;omega)
       go_wp2_with (first
        | (at_builtin;refine wpList_append_own_at _ rfl (.tmp 54) (.tmp 56) 24 rfl ws.heap.size 3 i0 (.int .i64 0) 1 8 Tryz.underlying24 hi hz0 hz1 hz2 rfl (by decide) (.slice na rk nk) rk (ics (rwF n cash d ps q) rk) rfl (NO.out.alloc _) ⟨wc.heap.size,0,none⟩ 1 1 [.int .i64 (i:Int)] rfl rfl (new1 _ _ _) (one1 _ rfl) (by unfold maxLen;omega) (by omega) HA3.out ?_;intro v' w7 hown hgrow _ _;rw [<-HFR.out,ics_succ] at hown;obtain⟨na',nk',rfl⟩:=own_shape hown;have VL7:=jj ((VL.out.alloc VL.out.size (.cells #[.int .i64 (i:Int)] 3)).grown hgrow HA3.out (fun kk e=>((NO.out.alloc (.cells #[.int .i64 (i:Int)] 3)).lt kk e).1));have NO7:=jj hown;clear hown hgrow))
       go_roundw
       case rel=>exact⟨i+1,by omega,by go_num,na',nk',by rw [HRK.out],jj (by rw [HRK.out];exact NO7.out),jj (by rw [HRK.out];exact fun e=>by omega),VL7⟩
       case measure=>simp [intOf];omega
    ·obtain rfl:n=i:=by omega
     have e1:decide ((n:Int)<(n:Int))=false:=by simp
     obtain⟨M,hM⟩:∃ M,M=rankF (NW n cash d ps q) n:=⟨_,rfl⟩;have HMM:Hid (M=rwM n cash d ps q):=jj hM;rw [<-hM] at NO HNN;rw [<-hM];have hMn:M<=n:=by rw [hM];exact rankF_le _ n
     have HM1:=jj hM;clear hM;have HQN:Hid (q<=n):=jj (Nat.le_trans HQR.out (rankF_le _ n));have HLV:=jj (fun g e=>(G.out.own.lt g e).2);have HLR:Hid (∀ i g,i<q->blk (ra i)=some g->g<ws.heap.size):=jj (fun i g hi e=>((G.out.row i hi).lt g (by rw [ownBlock_blk];exact e)).2);have G:=jj (G.out.below VL.out);have OF:=jj (rowIs_below OF.out VL.out OF.out.lt);have ON:=jj (rowIs_below ON.out VL.out ON.out.lt);have KW:=jj (jb KW.out VL.out);have PR:=jj (PR.out.below VL.out jl);rcases Nat.eq_zero_or_pos M with h0M | h0M
     ·subst h0M;obtain⟨rfl,rfl⟩:=HNN.out rfl;go_wp2;go_ret2;exact⟨q,va,vk,ra,rc,P,rfl,HQN.out,HQ.out,HMM.out.symm,G.out.base (by have:=HWB.out;omega),PR.out,KW.out⟩
     ·obtain⟨ng,rfl,hng,hnc⟩:=own_some NO.out h0M;have HNC:=jj hnc;have HNG:=jj hng;clear hng hnc PR HNN;have HWV:=jj VL.out.size;have OF:Hid (wr.rowIs fb 4 n (bF (mkF n (FS n cash d ps q) (NW n cash d ps q) 0))):=jj (OF.out.congr (fun i hi=>by unfold bF mkF;simp));have HLE:Hid (fb<wb.heap.size/\fb<ws.heap.size):=jj ⟨HFB.out,HOL.out⟩;clear VL;go_wp2
      go_loopw [11,65] (fun v11 v65 wi=>∃ r:Nat,r<=M/\v65 = .int .i64 (r:Nat)/\Hid (RowsIn wb.heap.size wi q (.slice va q vk) ra rc (rwM n cash d ps) (rwF n cash d ps))/\Hid (wi.ownsRow ws.heap.size 3 1 (.slice (some ⟨ng,0,none⟩) M nk) M (ics (rwF n cash d ps q) M))/\
       Hid (wi.rowIs fb 4 n (bF (mkF n (FS n cash d ps q) (NW n cash d ps q) r)))/\Hid (wi.rowIs nb 4 n (bF (fun _=>false)))/\Hid (Below w.heap.size w wi)/\Hid (ws.heap.size<=wi.heap.size)) (fun _ v65 _=>M - (intOf v65).toNat)
      case atStart=>exact⟨0,by omega,rfl,G,NO,OF,ON,KW,HWV⟩
      case round=>
       clear G NO OF ON KW HWV HNC;obtain⟨r,hrM,rfl,G,NO,OF,ON,KW,HWV⟩:=hrel;by_cases h:r<M
       ·have e2:decide ((r:Int)<(M:Int))=true:=by simpa using h
        have e2n:decide (r<M)=true:=by simpa using h
        obtain⟨fi,hfi⟩:∃ fi,fi=frN (NW n cash d ps q) n r:=⟨_,rfl⟩;have hsp:=frL_spec (NW n cash d ps q) n r (by rw [<-HM1.out];exact h);have HFI:Hid (NW n cash d ps q fi=true/\rankF (NW n cash d ps q) fi=r):=jj (by rw [hfi];exact⟨hsp.1,hsp.2.2⟩);have hfin:fi<n:=by rw [hfi];exact hsp.2.1
        obtain⟨ng2,hng2,_,hnc2⟩:=own_some NO.out h0M;have hgg:ng2=ng:=by injection hng2 with e;injection e with e;exact e.symm
        subst hgg;have cr:=hnc2 r _ (ics_get _ M r h);have er:ic (rwF n cash d ps q) r = .int .i64 (fi:Int):=by unfold ic rwF;rw [<-hfi]
        rw [er] at cr;have HFE:=jj hfi
        have ixn:∀ W,(Instr.indexAt 24 (.slice (some ⟨ng2,0,none⟩) M nk) (.int .i64 (r:Int))).run Tryz.prog W = .ok (.pointer (some ⟨ng2,r,none⟩)) W:=fun W=>by
         have h9:=run_indexAt_opt 24 ints_s ints_z (some ⟨ng2,0,none⟩) ng2 0 M nk (fun _=>rfl) .i64 r (by omega) (by omega) W;simpa using h9
        have ixf:=fun W=>ixB fb n n fi hfin W
        have cf:=OF.out.cell hfin;have ff:=OF.out.frozen fi;simp only [bF] at cf;clear hfi hsp hng2 hnc2 er;go_wp2;go_roundw
        case rel=>
         refine⟨r+1,by omega,by go_num,jj (G.out.setFar HLE.out.1 _),jj (own_setFar NO.out HLE.out.2 _),jj ((OF.out.set fi _).congr (fun i hi=>?_)),jj (ON.out.setOther (by exact fun e=>hne e.symm) _),jj (KW.out.setCell hfb _),jj (by simp only [World.setCell,Array.size_modify];exact HWV.out)⟩;unfold bF mkF;by_cases ei:i=fi
         ·subst ei;rw [if_pos rfl];simp [HFI.out.1,HFI.out.2]
         ·rw [if_neg ei];by_cases hNi:NW n cash d ps q i=true
          ·have h2:rankF (NW n cash d ps q) i≠r:=fun e=>ei (by
            have h3:=(frL_rank (NW n cash d ps q) n i hi hNi).2;rw [HFE.out];unfold frN;rw [<-e,h3])
           by_cases h4:rankF (NW n cash d ps q) i<r
           ·simp [hNi,h4,show rankF (NW n cash d ps q) i<r+1 by omega]
           ·simp [hNi,h4,show ¬ rankF (NW n cash d ps q) i<r+1 by omega]
          ·simp [hNi]
        case measure=>simp [intOf];omega
       ·obtain rfl:M=r:=by omega
        have e2:decide ((M:Int)<(M:Int))=false:=by simp
        have hqn:=HQN.out;have HA3:Hid (wb.heap.size<=(wr.alloc (.cells #[.slice (some ⟨ng,0,none⟩) M nk] 24)).heap.size):=jj (by have:=HWV.out;have:=HWW.out;simp;omega)
        go_wp2_with (first
         | (at_builtin;go_loud (refine wpList_append_own_at _ rfl (.tmp 73) (.tmp 75) 25 rfl wb.heap.size 24 j0 (.slice none 0 0) 1 24 Tryz.underlying25 hj hy0 hy1 hy2 rfl (by decide) (.slice va q vk) q (rowCells ra (rwM n cash d ps) rc q) rfl (G.out.own.alloc _) ⟨wr.heap.size,0,none⟩ 1 1 [.slice (some ⟨ng,0,none⟩) M nk] rfl rfl (new1 _ _ _) (one1 _ rfl) (by unfold maxLen;omega) (by omega) HA3.out ?_;intro v' w7 hown hgrow _ hblk;rw [HMM.out] at hown;have NO2:Hid (wr.ownsRow ws.heap.size 3 1 (.slice (some ⟨ng,0,none⟩) (rwM n cash d ps q) nk) (rwM n cash d ps q) (ics (rwF n cash d ps q) (rwM n cash d ps q))):=jj (by rw [<-HMM.out];exact NO.out);obtain⟨va',vk',rfl⟩:=own_shape hown;have HGR:=jj hgrow;have G7:=jj (G.out.pushR HWW.out NO2.out HLV.out HLR.out _ hgrow hblk hown);have KW7:=jj ((KW.out.alloc KW.out.size (.cells #[.slice (some ⟨ng,0,none⟩) M nk] 24)).grown hgrow (by have:=KW.out.size;simp;omega) (fun kk e=>by have h1:=((G.out.own.alloc (.cells #[.slice (some ⟨ng,0,none⟩) M nk] 24)).lt kk e).1;have h2:=HWB.out;omega));clear hown hgrow hblk)))
        have OF7:Hid (w7.rowIs fb 4 n (bF (FS n cash d ps (q+1)))):=jj (((OF.out.alloc _).of_block (HGR.out.block fb (by have:=OF.out.lt;simp;omega) (fun e=>by have:=(G.out.own.lt fb e.symm).1;have:=HLE.out.1;omega))).congr (fun i hi=>by
         unfold bF mkF;rw [fs_succ];by_cases hNi:NW n cash d ps q i=true
         ·have h2:=(frL_rank (NW n cash d ps q) n i hi hNi).1;rw [<-HM1.out] at h2;simp [hNi,h2]
         ·simp [hNi]))
        have ON7:Hid (w7.rowIs nb 4 n (bF (fun _=>false))):=jj ((ON.out.alloc _).of_block (HGR.out.block nb (by have:=ON.out.lt;simp;omega) (fun e=>by have:=(G.out.own.lt nb e.symm).1;have:=HNB.out;omega)));have HW7:Hid (wb.heap.size<=w7.heap.size):=jj (Nat.le_trans HA3.out HGR.out.size)
        have HQ7:Hid (∀ r,r<q+1->0<rwM n cash d ps r):=jj (fun r hr=>by
         by_cases e:r=q
         ·rw [e,<-HMM.out];exact h0M
         ·exact HQ.out r (by omega))
        have HQR7:Hid (q+1<=rankF (FS n cash d ps (q+1)) n):=jj (by rw [fs_rank,<-HM1.out];have:=HQR.out;omega);go_roundw
        case rel=>exact⟨q+1,HQ7,HQR7,va',vk',_,_,rfl,G7,OF7,ON7,KW7,HW7⟩
        case measure=>simp only;omega
theorem dL_debts:Debts 2 (fun _=>2) dL:=⟨by omega,by omega,fun i hi=>⟨rfl,by unfold dL;rw [if_neg (by omega),if_neg (by omega)],fun j _=>⟨(dL_range i j hi).1,(dL_range i j hi).2.1⟩⟩⟩
theorem cashL_range:∀ i,i<2->0<=cashL i/\cashL i<=1000:=fun i _=>by unfold cashL;split <;> omega
def payN (j:Nat):Nat:=if j=0 then 3 else 2
theorem rng_of {n:Nat} {cash:Nat->Int} {m:Nat->Nat} {d:Nat->Nat->Int} (hD:Debts n m d) (hC:∀ i,i<n->0<=cash i/\cash i<=1000) (hd:∀ i j,0<=d i j):Rng n cash d:=by
 refine⟨fun i j hi hj=>(hD.2.2 i hi).2.2 j hj,fun i hi=>?_,hC⟩;have h8:n<=8:=hD.2.1
 have h2:∀ k,k<=n->sumF (d i) k<=1000*(k:Int):=by
  intro k
  induction k with
  | zero=>intro _;simp [sumF]
  | succ k ih=>
   intro hk;have h3:=ih (by omega);have h4:=((hD.2.2 i hi).2.2 k (by omega)).2;simp only [sumF];omega
 have h3:=h2 n jl;exact⟨sumF_nn (hd i) n,by omega⟩
theorem pay_maxD {n:Nat} {cash:Nat->Int} {d:Nat->Nat->Int} {ps:(Nat->Bool)->Nat->Rat} (hR:Rng n cash d) (hn:n<=8) (hd:∀ i j,0<=d i j) (hps:PsOK n cash d ps) (q:Nat):∀ j,j<n->MaxD (PS n cash d ps q j).num.natAbs/\MaxD (PS n cash d ps q j).den:=fun j hj=>by
 obtain⟨x,hx⟩:=ps_rdy hps hR hd q;have h:=pay_small hR hn hd (rnd_all hps hR hd q).nc hx.sol j hj;exact⟨⟨Nat.lt_of_le_of_lt h.2.1 bd_ten⟩,⟨Nat.lt_of_le_of_lt h.2.2 bd_ten⟩⟩
structure Last (n:Nat) (cash:Nat->Int) (d:Nat->Nat->Int) (ps:(Nat->Bool)->Nat->Rat) (q:Nat):Prop where
 le:q<=n
 pos:∀ r,r<q->0<rwM n cash d ps r
 zero:rwM n cash d ps q=0
theorem clear_any (vc vd:Value) (n:Nat) (cash:Nat->Int) (m:Nat->Nat) (d:Nat->Nat->Int) (ps:(Nat->Bool)->Nat->Rat) (w:World) (hc:Ints w vc n cash) (hm:Mat w vd n m d) (hD:Debts n m d) (hC:∀ i,i<n->0<=cash i/\cash i<=1000) (hd:∀ i j,0<=d i j) (hps:PsOK n cash d ps) :
  Calls Tryz.prog 11 #[vc,vd] w fun e w'=>∃ q va vk ss,e = .returned (.tuple #[.slice va n vk,.int .i64 0])/\Last n cash d ps q/\TxtsOf n (PS n cash d ps q) ss/\Sl w' (.slice va n vk) n (fun j=>.string (ss j))/\Below w.heap.size w w':=by
 have HC:=jj hc;have HD:=jj hm;have HR:=jj (rng_of hD hC hd);have h0:0<n:=hD.1;have h8:n<=8:=hD.2.1;have HDD:=jj hd;have HPS:=jj hps;have HDB:=jj hD;have HCB:=jj hC;obtain⟨ca,cb,co,cc,rfl,hcs⟩:=hc;obtain⟨da,db,d_o,dc,ra,rb,ro,rc,rfl,hdm⟩:=hm;clear hcs hdm hD hC hd hps;go_enter Tryz.func11,Tryz.ntmps11
 go_wp2_with (first
  | (go_at_call 38;(with_reducible refine (read_ok _ _ n cash m d _ HC.out HD.out HDB.out HCB.out).mono ?_);rintro e w1 ⟨b,vt,rfl,hm,hb1⟩;have HM:=jj hm;have KW:=jj hb1;clear hm hb1)
  | (go_at_call 39;(with_reducible refine (rounds_any b n cash d _ _ _ ps _ HM.out h0 h8 HR.out HDD.out HPS.out).mono ?_);rintro e w2 ⟨q,oa,ok,ora,orc,P,rfl,hq1,hq2,hq3,-,hp,hb2⟩;have HL:Hid (Last n cash d ps q):=jj ⟨hq1,hq2,hq3⟩;have HP:=jj hp.rats;have KW:=jj (jb KW.out hb2);clear hp hb2 hq1 hq2 hq3)
  | (go_at_call 40;(with_reducible refine (nums_any P n n _ 200 _ HP.out (by omega) (by omega) (pay_maxD HR.out h8 HDD.out HPS.out q)).mono ?_);rintro e w3 ⟨va,vk,ss,rfl,htx,hv,hb3⟩;have HTX:=jj htx;have HV:=jj hv;have KW:=jj (jb KW.out hb3);clear hv hb3 htx))
 go_ret2;exact⟨q,va,vk,ss,rfl,HL.out,HTX.out,Sl.of_own HV.out (fun i hi=>strL_get ss n i hi),KW.out⟩
theorem fails_any (vc vd:Value) (n:Nat) (cash:Nat->Int) (m:Nat->Nat) (d:Nat->Nat->Int) (ps:(Nat->Bool)->Nat->Rat) (w:World) (hc:Ints w vc n cash) (hm:Mat w vd n m d) (hD:Debts n m d) (hC:∀ i,i<n->0<=cash i/\cash i<=1000) (hd:∀ i j,0<=d i j) (hps:PsOK n cash d ps) :
  Calls Tryz.prog 15 #[vc,vd] w fun e w'=>∃ q va vk,e = .returned (.tuple #[.slice va q vk,.int .i64 0])/\Last n cash d ps q/\Mat w' (.slice va q vk) q (rwM n cash d ps) (rwF n cash d ps)/\Below w.heap.size w w':=by
 have HC:=jj hc;have HD:=jj hm;have HR:=jj (rng_of hD hC hd);have h0:0<n:=hD.1;have h8:n<=8:=hD.2.1;have HDD:=jj hd;have HPS:=jj hps;have HDB:=jj hD;have HCB:=jj hC;obtain⟨ca,cb,co,cc,rfl,hcs⟩:=hc;obtain⟨da,db,d_o,dc,ra,rb,ro,rc,rfl,hdm⟩:=hm;clear hcs hdm hD hC hd hps;go_enter Tryz.func15,Tryz.ntmps15
 go_wp2_with (first
  | (go_at_call 38;(with_reducible refine (read_ok _ _ n cash m d _ HC.out HD.out HDB.out HCB.out).mono ?_);rintro e w1 ⟨b,vt,rfl,hm,hb1⟩;have HM:=jj hm;have KW:=jj hb1;clear hm hb1)
  | (go_at_call 39;(with_reducible refine (rounds_any b n cash d _ _ _ ps _ HM.out h0 h8 HR.out HDD.out HPS.out).mono ?_);rintro e w2 ⟨q,oa,ok,ora,orc,P,rfl,hq1,hq2,hq3,hg,-,hb2⟩;have HL:Hid (Last n cash d ps q):=jj ⟨hq1,hq2,hq3⟩;have HG:=jj hg.mat;have KW:=jj (jb KW.out hb2);clear hg hb2 hq1 hq2 hq3))
 go_ret2;exact⟨q,oa,ok,rfl,HL.out,HG.out,KW.out⟩
end Go.Proofs.YtgmopcncbpdniaaGreat
namespace Go.Proofs.YtgmopcncbpdniaaGreat
open Go.RowKit
structure Pays (n:Nat) (cash:Nat->Int) (d:Nat->Nat->Int) (F:Nat->Bool) (p:Nat->Rat):Prop where
 rnd:RndJ n (cashQ cash) (totQ n d) (shQ n d) F
 sol:SolF n (cashQ cash) (totQ n d) (shQ n d) F p
 clr:ClrQ n (cashQ cash) (totQ n d) (shQ n d) p
 no:∀ i,i<n->F i=false->totQ n d i<=hasP n (cashQ cash) (shQ n d) p i
theorem last_no {n:Nat} {cash:Nat->Int} {d:Nat->Nat->Int} {ps:(Nat->Bool)->Nat->Rat} {q:Nat} (h:Last n cash d ps q):∀ i,i<n->NW n cash d ps q i=false:=fun i hi=>by
 rcases Bool.eq_false_or_eq_true (NW n cash d ps q i) with e | e
 ·have h1:=(frL_rank _ n i hi e).1;have h2:=h.zero;unfold rwM at h2;omega
 ·exact e
theorem pays_of {n:Nat} {cash:Nat->Int} {d:Nat->Nat->Int} {ps:(Nat->Bool)->Nat->Rat} {q:Nat} (hR:Rng n cash d) (hd:∀ i j,0<=d i j) (hps:PsOK n cash d ps) (h:Last n cash d ps q):Pays n cash d (FS n cash d ps q) (PS n cash d ps q):=by
 obtain⟨x,hx⟩:=ps_rdy hps hR hd q;have hJ:=rnd_all hps hR hd q
 have hno:∀ i,i<n->FS n cash d ps q i=false->totQ n d i<=hasP n (cashQ cash) (shQ n d) (PS n cash d ps q) i:=fun i hi hF=>by
  have h1:=last_no h i hi;refine Rat.not_lt.1 (fun hlt=>?_);rw [nw_iff,hF,decide_eq_true hlt] at h1;cases h1
 exact⟨hJ,hx.sol,sol_clears (mktQ_of hR hd) hJ hx.sol hno,hno⟩
theorem txtq_of {n:Nat} {cash:Nat->Int} {d:Nat->Nat->Int} {ps:(Nat->Bool)->Nat->Rat} {q:Nat} {ss:Nat->ByteArray} (hR:Rng n cash d) (hn:n<=8) (hd:∀ i j,0<=d i j) (hps:PsOK n cash d ps) (h:TxtsOf n (PS n cash d ps q) ss):TxtQs n (PS n cash d ps q) ss:=
 ⟨fun j hj=>⟨h.txt j hj,(pay_maxD hR hn hd hps q j hj).1,(pay_maxD hR hn hd hps q j hj).2⟩⟩
end Go.Proofs.YtgmopcncbpdniaaGreat
namespace Go.Proofs.YtgmopcncbpdniaaGreat
variable {n:Nat} {cash:Nat->Int} {d:Nat->Nat->Int} {ps:(Nat->Bool)->Nat->Rat}
theorem last_uniq {q r:Nat} (h:Last n cash d ps q) (h':Last n cash d ps r):q=r:=by
 rcases Nat.lt_trichotomy q r with e | e | e
 ·have:=h'.pos q e;have:=h.zero;omega
 ·exact e
 ·have:=h.pos r e;have:=h'.zero;omega
theorem cmpR_lt (a b:Rat):decide (cmpR a b<0)=decide (a<b):=by
 unfold cmpR;by_cases h:a<b
 ·rw [if_pos h];simp [h]
 ·rw [if_neg h];split <;> simp [h]
variable {n:Nat} {cash:Nat->Int} {d:Nat->Nat->Int}
theorem shQ_sum (hd:∀ i j,0<=d i j) (j:Nat) (h:sumF (d j) n≠0):sumQ (fun i=>shQ n d j i) n=1:=by
 rw [sumQ_congr n (g:=fun i=>((tI n d j:Int):Rat)⁻¹*((eI n d j i:Int):Rat)) (fun i _=>by rw [shQ_eq,Rat.div_def,Rat.mul_comm]),sumQ_mul];have h1:=tI_ne (n:=n) hd j;unfold tI eI at *
 simp only [h,if_false] at h1 ⊢;rw [<-sumF_cast,Rat.inv_mul_cancel _ h1]
def clsB (F:Nat->Bool) (R:Nat->Nat->Bool) (i:Nat):Nat->Bool
 | 0=>F i && R i i
 | j+1=>if R i j then (clsB F R i j && F j) && R j i else clsB F R i j
def fstB (R:Nat->Nat->Bool) (i:Nat):Nat->Bool
 | 0=>true
 | j+1=>if R i j then fstB R i j && decide (i<=j) else fstB R i j
def freB (F:Nat->Bool) (R:Nat->Nat->Bool) (n i:Nat):Bool:=clsB F R i n && fstB R i n
theorem clsB_spec {F:Nat->Bool} {R:Nat->Nat->Bool} {i:Nat} : ∀ {n:Nat},clsB F R i n=true->F i=true/\R i i=true/\∀ j,j<n->R i j=true->F j=true/\R j i=true
 | 0,h=>by
  have h1:(F i && R i i)=true:=h;rw [Bool.and_eq_true] at h1;exact⟨h1.1,h1.2,fun j hj=>by omega⟩
 | n+1,h=>by
  unfold clsB at h;by_cases e:R i n=true
  ·rw [if_pos e,Bool.and_eq_true,Bool.and_eq_true] at h;obtain⟨⟨h1,h2⟩,h3⟩:=h;obtain⟨a,b,c⟩:=clsB_spec h1
   exact⟨a,b,fun j hj hr=>by
    by_cases q:j=n
    ·subst q;exact⟨h2,h3⟩
    ·exact c j (by omega) hr⟩
  ·rw [if_neg e] at h;obtain⟨a,b,c⟩:=clsB_spec h
   exact⟨a,b,fun j hj hr=>by
    by_cases q:j=n
    ·subst q;exact absurd hr e
    ·exact c j (by omega) hr⟩
theorem rch_out {D:Nat->Nat->Bool} : ∀ {k i j:Nat},rch D k i j=true->∃ l,(l=j\/l<k)/\D i l=true
 | 0,i,j,h=>⟨j,.inl rfl,h⟩
 | k+1,i,j,h=>by
  have h1:(rch D k i j || (rch D k i k && rch D k k j))=true:=h;rw [Bool.or_eq_true,Bool.and_eq_true] at h1;rcases h1 with a | ⟨a,_⟩
  ·obtain⟨l,h2,h3⟩:=rch_out a;exact⟨l,by omega,h3⟩
  ·obtain⟨l,h2,h3⟩:=rch_out a;exact⟨l,by omega,h3⟩
section
variable {n:Nat} {cash:Nat->Int} {d:Nat->Nat->Int}
theorem fre_none (hd:∀ i j,0<=d i j) {F:Nat->Bool} (hF:NoClosed n (shQ n d) (fun i=>F i=true)) (i:Nat) (hi:i<n):freB F (rch (owes d) n) n i=false:=by
 cases hc:clsB F (rch (owes d) n) i n with
 | false=>unfold freB;rw [hc];rfl
 | true=>
  exfalso;obtain⟨h1,h2,h3⟩:=clsB_spec hc;refine hF (fun l=>l<n/\rch (owes d) n i l=true) (fun l hl=>⟨hl.1,(h3 l hl.1 hl.2).1⟩) (fun j hj=>?_) i ⟨hi,h2⟩;obtain⟨hjn,hj⟩:=hj;refine⟨shQ_sum hd j ?_,fun l hl hnl=>?_⟩
  ·obtain⟨l,h4,h5⟩:=rch_out (h3 j hjn hj).2;have hln:l<n:=by omega
   have h6:0<d j l:=by simpa [owes] using h5
   have:=sumF_mem (hd j) n l hln;omega
  ·by_cases h5:0<d j l
   ·exfalso;have h6:owes d j l=true:=by simpa [owes] using h5
    exact hnl ⟨hl,rch_trans n j i l hjn hj (rch_edge j l h6 n)⟩
   ·exact shQ_none (by have:=hd j l;omega)
theorem sys_row {F fr:Nat->Bool} {one:Int} {i:Nat} (hi:i<n) (hfr:fr i=false) (y:Nat->Rat) :
  sumQ (fun j=>sysQ n cash d F fr one i j*y j) n=y i - (if F i=true then sumQ (fun j=>y j*shQ n d j i) n else 0):=by
 have e:∀ j,j<n->sysQ n cash d F fr one i j*y j=(if j=i then y i else 0) - (if F i=true then y j*shQ n d j i else 0):=fun j hj=>by
  unfold sysQ;rw [if_neg (by omega)];by_cases e1:j=i
  ·subst e1;by_cases e2:F j=true
   ·simp [hfr,e2];grind
   ·simp [e2];grind
  ·by_cases e2:F i=true
   ·simp [e1,hfr,e2];grind
   ·simp [e1,e2];grind
 rw [sumQ_congr n e,sumQ_sub,sumQ_one _ i n hi (fun j _ hj=>by simp [hj])];by_cases e2:F i=true
 ·simp [e2]
 ·simp [e2,sumQ_zero]
theorem sys_pays {F fr:Nat->Bool} {one:Int} (hfr:∀ i,i<n->fr i=false) {p:Nat->Rat} (hp:SolF n (cashQ cash) (totQ n d) (shQ n d) F p) (i:Nat) (hi:i<n) :
  sumQ (fun j=>sysQ n cash d F fr one i j*p j) n=sysQ n cash d F fr one i n:=by
 rw [sys_row hi (hfr i hi)];unfold sysQ rhsQ;rw [if_pos rfl];by_cases e2:F i=true
 ·have:=hp.on i hi e2;unfold hasP at this;simp [hfr i hi,e2];grind
 ·have:=hp.no i hi (by simpa using e2);simp [hfr i hi,e2];grind
theorem sys_kernel (hm:Shr n (shQ n d)) {F fr:Nat->Bool} {one:Int} (hfr:∀ i,i<n->fr i=false) (hF:NoClosed n (shQ n d) (fun i=>F i=true)) {y:Nat->Rat}
  (hy:∀ i,i<n->sumQ (fun j=>sysQ n cash d F fr one i j*y j) n=0) (i:Nat) (hi:i<n):y i=0:=by
 have hz:∀ i,i<n->y i=if F i=true then sumQ (fun j=>y j*shQ n d j i) n else 0:=fun i hi=>by
  have:=hy i hi;rw [sys_row hi (hfr i hi)] at this;grind
 have a:=below_zero hm hF y (fun i hi hn=>by rw [hz i hi,if_neg hn];exact Rat.le_refl) (fun i hi hf=>by
  have:=hz i hi;rw [if_pos hf] at this;rw [this];exact Rat.le_refl) i hi
 have b:=below_zero hm hF (fun i=>-1*y i) (fun i hi hn=>by show -1*y i<=0;rw [hz i hi,if_neg hn];grind) (fun i hi hf=>by
  have e:sumQ (fun j=>-1*y j*shQ n d j i) n = -1*sumQ (fun j=>y j*shQ n d j i) n:=by
   rw [<-sumQ_mul];exact sumQ_congr n (fun j _=>by grind)
  show -1*y i<=sumQ (fun j=>-1*y j*shQ n d j i) n;rw [e];have:=hz i hi;rw [if_pos hf] at this;rw [this];exact Rat.le_refl) i hi
 have b' : -1*y i<=0:=b;grind
end
theorem QIs.tight {w:World} {v:Value} {p d:Int} {m k:Nat} (h:QIs w v p d m) (h1:nd p.natAbs<=k) (h2:nd d.natAbs<=k):QIs w v p d k:=by
 obtain⟨s1,u1,s2,u2,h0,g1,g2,g3⟩:=h;exact⟨s1,u1,s2,u2,h0,g1.tight h1,g2.tight h2,g3⟩
theorem QSl.tight {w:World} {v:Value} {n m k:Nat} {p d:Nat->Int} (h:QSl w v n p d m) (hk:∀ j,j<n->nd (p j).natAbs<=k/\nd (d j).natAbs<=k):QSl w v n p d k:=by
 obtain⟨g,cap,rfl,h1,h2,h3⟩:=h.val;refine⟨g,cap,rfl,h1,h2,fun j hj=>?_⟩;obtain⟨s,a,m,c,t,a2,m2,c2,k1,k2,k3,k4,k5⟩:=h3 j hj;exact⟨s,a,m,c,t,a2,m2,c2,k1,k2,k3,k4,k5.tight (hk j hj).1 (hk j hj).2⟩
theorem nd_pow (x L k:Nat) (h:x<10 ^ L) (e:L=4*k):nd x<=k:=(nd_le x k).2 (by subst e;rw [Nat.pow_mul] at h;exact h)
theorem maxD_nd {x:Nat} (h:MaxD x):nd x<=1000:=nd_pow x _ 1000 h.lt rfl
end Go.Proofs.YtgmopcncbpdniaaGreat
