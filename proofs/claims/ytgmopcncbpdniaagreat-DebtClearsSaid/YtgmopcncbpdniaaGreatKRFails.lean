import Derived.Test.YtgmopcncbpdniaaGreatKShelf
import Derived.Test.YtgmopcncbpdniaaGreatKInt5
import Derived.Test.YtgmopcncbpdniaaGreatKPlainN
import Derived.Deep.DeepCutAuto
import Derived.Deep.CutBlock
import Derived.Test.YtgmopcncbpdniaaGreatKRPays
set_option linter.unusedVariables false
set_option linter.unusedSimpArgs false
namespace Go.Proofs.YtgmopcncbpdniaaGreat
open Go.RowKit
attribute [local go_sem ↓] Go.wp_at_zero Go.wp_at_succ
set_option maxHeartbeats 16000000 in
set_option maxRecDepth 100000 in
theorem rfails_any (vc vd:Value) (n:Nat) (cash:Nat->Int) (d:Nat->Nat->Int) (ps:(Nat->Bool)->Nat->Rat) (w:World) (hc:Ints w vc n cash) (hm:Mat w vd n (fun _=>n) d) (h0:0<n) (hn:n<=8) (hR:Rng n cash d) (hd:∀ i j,0<=d i j) (hps:PsOK n cash d ps) :
  Calls Tryz.prog 24 #[vc,vd] w fun e w'=>∃ q va vk vp,e = .returned (.tuple #[.slice va q vk,vp])/\Last n cash d ps q/\Mat w' (.slice va q vk) q (rwM n cash d ps) (rwF n cash d ps)/\VSl w' vp n (PS n cash d ps q) 1000/\Below w.heap.size w w':=by
 have HDM:=jj hm;have HCM:=jj hc;obtain⟨da,db,do_,dc,ra,rd,ro,rc,rfl,hdm⟩:=hm;obtain⟨ca,cb,co,cc,rfl,hcs⟩:=hc;have HM:=jj hdm;have HCS:=jj hcs;have HR:=jj hR;have HD:=jj hd;have HPS:=jj hps;obtain⟨i0,hi,hz0,hz1,hz2⟩:=info_parts infoI;obtain⟨j0,hj,hy0,hy1,hy2⟩:=info_parts infoM;have hmk:=mkBn n (by omega);have hB1:(w.alloc (.cells (madeCells #[.bool false] n) 4)).heap.size=w.heap.size+1:=by simp
 have OF0:Hid ((w.alloc (.cells (madeCells #[.bool false] n) 4)).rowIs w.heap.size 4 n (bF (FS n cash d ps 0))):=jj ((World.rowIs_made w (.bool false) n 4).congr (fun i hi=>rfl));have KB2:=jj (boxes2 w (.cells (madeCells #[.bool false] n) 4) (.cells #[] 24));have OF0:=jj (rowIs_below OF0.out (boxes1 _ (.cells #[] 24)) OF0.out.lt)
 have G0:Hid (RowsIn (w.heap.size+1) ((w.alloc (.cells (madeCells #[.bool false] n) 4)).alloc (.cells #[] 24)) 0 (.slice (some ⟨w.heap.size+1,0,none⟩) 0 0) (fun _=>none) (fun _=>0) (rwM n cash d ps) (rwF n cash d ps)):=jj (by
  rw [<-hB1];exact RowsIn.start (World.ownsRow_made (e:=24) (base:=(w.alloc (.cells (madeCells #[.bool false] n) 4)).heap.size) (size:=1) _ #[] 0 jl (by unfold maxLen;omega) rfl))
 clear hdm hcs hR hd hps;go_enter Tryz.func24,Tryz.ntmps24;go_wp2
 go_loopw [8,9,10,11,12,13] (fun v8 v9 v10 v11 v12 v13 wr=>∃ q:Nat,Hid (∀ r,r<q->0<rwM n cash d ps r)/\Hid (q<=rankF (FS n cash d ps q) n)/\∃ va vk ra rc,v8 = .slice va q vk/\Hid (RowsIn (w.heap.size+1) wr q (.slice va q vk) ra rc (rwM n cash d ps) (rwF n cash d ps))/\
  Hid (wr.rowIs w.heap.size 4 n (bF (FS n cash d ps q)))/\Hid (Below w.heap.size w wr)/\Hid (w.heap.size+1<=wr.heap.size)) (fun v8 _ _ _ _ _ _=>match v8 with | .slice _ q _=>n+1 - q | _=>0)
 case atStart=>exact⟨0,jj (fun r hr=>by omega),jj (Nat.zero_le _),_,0,_,_,(by simp),G0,OF0,KB2,jj (by simp)⟩
 case round=>
  clear G0 OF0 KB2;obtain⟨q,HQ,HQR,va,vk,ra2,rc2,rfl,G,OF,KW,HWW⟩:=hrel;obtain⟨x,hx⟩:=ps_rdy HPS.out HR.out HD.out q;have HSOL:=jj hx.sol;have HRJ:=jj (rnd_all HPS.out HR.out HD.out q);have HMQ:=jj (mktQ_of HR.out HD.out);clear hx;have BF:Hid (Bsl wr (.slice (some ⟨w.heap.size,0,none⟩) n n) n (FS n cash d ps q)):=jj ⟨_,w.heap.size,0,n,rfl,⟨Nat.le_refl n,fun _=>rfl,fun _=>OF.out.lt,fun j hj=>by rw [Nat.zero_add];exact OF.out.cell hj,fun e=>by cases e⟩⟩
  go_wp2_with (first
   | (go_at_call 55;(with_reducible refine (rpays_any _ _ _ n cash d (FS n cash d ps q) (PS n cash d ps q) _ (HCM.out.mono KW.out jl) (HDM.out.mono KW.out jl) BF.out h0 hn HR.out.csh HD.out (fun i j hi hj=>(HR.out.deb i j hi hj).2) (fun i hi=>(HR.out.tot i hi).2) HMQ.out.sh HRJ.out.nc HSOL.out (sol_nonneg HMQ.out HRJ.out HSOL.out) (sol_le HMQ.out HRJ.out HSOL.out) (pay_maxD HR.out hn HD.out HPS.out q)).mono ?_);rintro e w1 ⟨v1,rfl,hp1,hb1⟩;have HP:=jj hp1;have G:=jj (G.out.below hb1);have OF:=jj (rowIs_below OF.out hb1 OF.out.lt);have KW:=jj (jb KW.out hb1);have HWW:=jj (Nat.le_trans HWW.out hb1.size);clear hp1 hb1))
  obtain⟨ws,rfl⟩:∃ ws:World,ws=w1:=⟨_,rfl⟩;have VS0:=jj (boxes1 ws (.cells #[] 3));have NO0:=jj (World.ownsRow_made (e:=3) (base:=ws.heap.size) (size:=1) ws #[] 0 jl (by unfold maxLen;omega) rfl);have HOL:=jj OF.out.lt;clear BF HSOL HRJ HMQ;go_loopw [11,12] (fun v11 v12 wi=>∃ i:Nat,i<=n/\v12 = .int .i64 (i:Nat)/\∃ na nk,v11 = .slice na (rankF (NW n cash d ps q) i) nk/\Hid (wi.ownsRow ws.heap.size 3 1 (.slice na (rankF (NW n cash d ps q) i) nk) (rankF (NW n cash d ps q) i) (ics (rwF n cash d ps q) (rankF (NW n cash d ps q) i)))/\Hid (Below ws.heap.size ws wi)) (fun _ v12 _=>n - (intOf v12).toNat)
  case atStart=>exact⟨0,by omega,rfl,_,0,rfl,NO0,VS0⟩
  case round=>
   clear VS0 NO0;obtain⟨i,hin,rfl,na,nk,rfl,NO,VL⟩:=hrel;by_cases h:i<n
   ·have e1:decide ((i:Int)<(n:Int))=true:=by simpa using h
    have e1n:decide (i<n)=true:=by simpa using h
    obtain⟨wi,rfl⟩:∃ wi:World,wi=wr:=⟨_,rfl⟩;have KWi:=jj (jb KW.out VL.out);have ib:=fun W=>ixB w.heap.size n n i h W
    have ixd:=fun W=>ixM HM.out.top i dc h W
    have ixc:=fun W=>ixI HCS.out i cc h W
    have y0:=jj ((HM.out.mono KWi.out jl).top.cell i h);have y2:=jj ((HCS.out.mono KWi.out jl).cell i h);have HFI:=jj ((rowIs_below OF.out VL.out OF.out.lt).cell h);have HW:Hid (-9223372036854775808<=cash i/\cash i<9223372036854775808):=jj (by have:=HR.out.csh i h;omega);have HT:Hid (-9223372036854775808<=sumF (d i) n/\sumF (d i) n<9223372036854775808):=jj (by have:=HR.out.tot i h;omega);have HDT:Hid (∀ l,l<n->-(1099511627776:Int)<=d i l/\d i l<=1099511627776):=jj (fun l hl=>by have:=HR.out.deb i l h hl;omega)
    go_upto_region 8 with fail
    go_cut [56] (fun v56 wx=>v56 = .bool (NW n cash d ps q i)/\Hid (Below wi.heap.size wi wx))
    case first=>
     have HPi:=jj (HP.out.mono VL.out jl);rcases hFi:FS n cash d ps q i with _ | _
     ·have HNW:Hid (decide (cmpR (((cash i:Int):Rat)+sumQ (fun j=>PS n cash d ps q j*shQ n d j i) n) ((sumF (d i) n:Int):Rat)<0)=NW n cash d ps q i):=jj (by
       rw [cmpR_lt,nw_iff,hFi];simp only [Bool.not_false,Bool.true_and];rfl)
      have keepR:Hid (∀ w',Below wi.heap.size wi w'->w'.cell? ⟨w.heap.size,i,none⟩=some (.bool false)/\w'.cell? ⟨cb,co+i,none⟩=some (.int .i64 (cash i))/\w'.cell? ⟨db,do_+i,none⟩=some (.slice (ra i) n (rc i))):=
       jj (fun w' hb=>⟨(by have e:=bel1 hb HFI.out (by have:=HOL.out;have:=VL.out.size;omega);simp only [bF,hFi] at e;exact e),bel1 hb y2.out (jm (HCS.out.lt (by omega)) KWi.out.size),bel1 hb y0.out (jm (HM.out.top.lt (by omega)) KWi.out.size)⟩)
      have HP:=HPi;have KW:=KWi;have VL:=jj (jr wi).drew;refine wp_region_held_drew (S:=fun w'=>w'.cell? ⟨w.heap.size,i,none⟩=some (.bool false)/\w'.cell? ⟨cb,co+i,none⟩=some (.int .i64 (cash i))/\w'.cell? ⟨db,do_+i,none⟩=some (.slice (ra i) n (rc i))) (by kernel_rfl) (keepR.out _ VL.out) (fun hHeld=>?_);refine wtk_begin [0,1,2,3,4,5,6,7,8,9,11,12,13,16,17,18,19] ?_
      iterate 17 (refine wtk (v:=?_) rfl (by kernel_rfl) (fun _ _ _ h=>h) (by kernel_rfl) ?_ (by assumption) ?_;rotate_left;(focus intro w0 hSw;(try dsimp only at hSw);go_simp;all_goals (with_reducible rfl));simp only [Act.put,js,jz,jc])
      refine wtk_end ?_;refine wpAnyH_ready (rs:=[10]) (by kernel_rfl) (by simp) ?_;refine AllReadyH.cons rfl (fun Kn hKn=>?_) AllReadyH.nil;go_simp
      (go_at_call 16;(with_reducible refine (qv_whole (cash i) _ HW.out.1 HW.out.2).mono ?_);rintro e w7 ⟨r7,rfl,hr7,hb7⟩;obtain⟨s7,a7,n7,c7,t7,b7,l7,k7,rfl,QC⟩:=hr7.shape;clear hr7;have VL:=jj (jb VL.out hb7))
      go_wp2_with fail;refine hKn.out _ _ (keepR.out _ VL.out) (fun hHeld=>?_);clear hKn Kn
      (try simp only [Act.put,js,jz,jc])
      refine wpAnyH_ready (rs:=[14]) (by kernel_rfl) (by simp) ?_;refine AllReadyH.cons rfl (fun Kn hKn=>?_) AllReadyH.nil;go_simp
      (go_at_call 19;(with_reducible refine (recv_any _ _ n i d (PS n cash d ps q) 1000 _ (HDM.out.mono (jb KW.out VL.out) jl) (HP.out.mono VL.out jl) h hn HD.out (fun i j hi hj=>(HR.out.deb i j hi hj).2) (fun i hi=>(HR.out.tot i hi).2) (by omega) (by omega)).mono ?_);rintro e w8 ⟨r8,rfl,hr8,hb8⟩;have hr8:=QV.of hr8;obtain⟨s8,a8,n8,c8,t8,b8,l8,k8,rfl,QR⟩:=hr8.shape;clear hr8;have QC:=jj (QC.out.mono hb8 jl);have VL:=jj (jb VL.out hb8))
      go_wp2_with fail;refine hKn.out _ _ (keepR.out _ VL.out) (fun hHeld=>?_);clear hKn Kn
      (try simp only [Act.put,js,jz,jc])
      refine wpAnyH_ready (rs:=[15]) (by kernel_rfl) (by simp) ?_;refine AllReadyH.cons rfl (fun Kn hKn=>?_) AllReadyH.nil;go_simp
      (go_at_call 18;(with_reducible refine (qv_add _ _ ((cash i:Int):Rat) (sumQ (fun j=>PS n cash d ps q j*shQ n d j i) n) (512*(1000+1)) _ (QC.out.le (by omega)) QR.out (by omega)).mono ?_);rintro e w9 ⟨r9,rfl,hr9,hb9⟩;obtain⟨s9,a9,n9,c9,t9,b9,l9,k9,rfl,QA⟩:=hr9.shape;clear hr9;have VL:=jj (jb VL.out hb9))
      go_wp2_with fail;refine hKn.out _ _ (keepR.out _ VL.out) (fun hHeld=>?_);clear hKn Kn
      (try simp only [Act.put,js,jz,jc])
      refine wpAnyH_ready (rs:=[20]) (by kernel_rfl) (by simp) ?_;refine AllReadyH.cons rfl (fun Kn hKn=>?_) AllReadyH.nil;go_simp
      (go_at_call 17;(with_reducible refine (total_any _ n (d i) _ ((HM.out.row i h).ints.mono (jb KW.out VL.out) jl) (by omega) HDT.out).mono ?_);rintro e w4 ⟨rfl,hd4⟩;have QA:=jj (QA.out.mono (hd4.below w9.heap.size) jl);have VL:=jj (VL.out.trans ((hd4.below w9.heap.size).mono VL.out.size)))
      go_wp2_with fail;refine hKn.out _ _ (keepR.out _ VL.out) (fun hHeld=>?_);clear hKn Kn
      (try simp only [Act.put,js,jz,jc])
      refine wpAnyH_ready (rs:=[21]) (by kernel_rfl) (by simp) ?_;refine AllReadyH.cons rfl (fun Kn hKn=>?_) AllReadyH.nil;go_simp
      (go_at_call 16;(with_reducible refine (qv_whole (sumF (d i) n) _ HT.out.1 HT.out.2).mono ?_);rintro e w5 ⟨r5,rfl,hr5,hb5⟩;obtain⟨s6,a6,n6,c6,t6,b6,l6,k6,rfl,QT⟩:=hr5.shape;clear hr5;have QA:=jj (QA.out.mono hb5 jl);have VL:=jj (jb VL.out hb5))
      go_wp2_with fail;refine hKn.out _ _ (keepR.out _ VL.out) (fun hHeld=>?_);clear hKn Kn
      (try simp only [Act.put,js,jz,jc])
      refine wpAnyH_ready (rs:=[22]) (by kernel_rfl) (by simp) ?_;refine AllReadyH.cons rfl (fun Kn hKn=>?_) AllReadyH.nil;go_simp
      (go_at_call 14;(with_reducible refine (qv_cmp _ _ (((cash i:Int):Rat)+sumQ (fun j=>PS n cash d ps q j*shQ n d j i) n) ((sumF (d i) n:Int):Rat) (2*(512*(1000+1))+1) _ QA.out (QT.out.le (by omega)) (by omega)).mono ?_);rintro e w6 ⟨rfl,hb6⟩;have VL:=jj (jb VL.out hb6))
      go_wp2_with fail;refine hKn.out _ _ (keepR.out _ VL.out) (fun hHeld=>?_);clear hKn Kn
      (try simp only [Act.put,js,jz,jc])
      refine wtk_begin [23,24] ?_
      iterate 2 (refine wtk (v:=?_) rfl (by kernel_rfl) (fun _ _ _ h=>h) (by kernel_rfl) ?_ (by assumption) ?_;rotate_left;(focus intro w0 hSw;(try dsimp only at hSw);go_simp;all_goals (with_reducible rfl));simp only [Act.put,js,jz,jc])
      refine wtk_end ?_;refine wpAnyH_done (by kernel_rfl) ?_ _
      (try simp only [jt,jd,je,Act.put,js,jz,jc])
      go_wp2_with fail;go_meet
      case rel=>exact⟨by rw [HNW.out],VL⟩
     ·have HNW:Hid (NW n cash d ps q i=false):=jj (by rw [nw_iff,hFi];rfl)
      have keepR:Hid (∀ w',Below wi.heap.size wi w'->w'.cell? ⟨w.heap.size,i,none⟩=some (.bool true)/\w'.cell? ⟨cb,co+i,none⟩=some (.int .i64 (cash i))/\w'.cell? ⟨db,do_+i,none⟩=some (.slice (ra i) n (rc i))):=
       jj (fun w' hb=>⟨(by have e:=bel1 hb HFI.out (by have:=HOL.out;have:=VL.out.size;omega);simp only [bF,hFi] at e;exact e),bel1 hb y2.out (jm (HCS.out.lt (by omega)) KWi.out.size),bel1 hb y0.out (jm (HM.out.top.lt (by omega)) KWi.out.size)⟩)
      have VL:=jj (jr wi).drew;refine wp_region_held_drew (S:=fun w'=>w'.cell? ⟨w.heap.size,i,none⟩=some (.bool true)/\w'.cell? ⟨cb,co+i,none⟩=some (.int .i64 (cash i))/\w'.cell? ⟨db,do_+i,none⟩=some (.slice (ra i) n (rc i))) (by kernel_rfl) (keepR.out _ VL.out) (fun hHeld=>?_);refine wtk_begin [0,1,2,3,4,5] ?_
      iterate 6 (refine wtk (v:=?_) rfl (by kernel_rfl) (fun _ _ _ h=>h) (by kernel_rfl) ?_ (by assumption) ?_;rotate_left;(focus intro w0 hSw;(try dsimp only at hSw);go_simp;all_goals (with_reducible rfl));simp only [Act.put,js,jz,jc])
      refine wtk_end ?_;refine wtk_begin [6,7,8,9,10,11,12,13,14,15,16,17,18,19,20,21,22,23] ?_
      iterate 18 (refine wtk_un rfl (by kernel_rfl) (fun _ _ _ h=>h) (by kernel_rfl) (by assumption) ?_;simp only [jt,jd,je,Act.put,js,jz,jc])
      refine wtk_end ?_;refine wtk_begin [24] ?_
      (refine wtk (v:=?_) rfl (by kernel_rfl) (fun _ _ _ h=>h) (by kernel_rfl) ?_ (by assumption) ?_;rotate_left;(focus intro w0 hSw;(try dsimp only at hSw);go_simp;all_goals (with_reducible rfl));simp only [Act.put,js,jz,jc])
      refine wtk_end ?_;refine wpAnyH_done (by kernel_rfl) ?_ _
      (try simp only [jt,jd,je,Act.put,js,jz,jc])
      go_wp2_with fail;go_meet
      case rel=>exact⟨by rw [HNW.out],VL⟩
    case rest=>
     obtain⟨rfl,VL2⟩:=hcut;clear HFI ib ixd ixc y0 y2;have NO:=jj (own_kept NO.out VL2.out);have VL:=jj (jb VL.out VL2.out);clear VL2 KWi;rcases hNi:NW n cash d ps q i with _ | _
     ·have hrk:rankF (NW n cash d ps q) (i+1)=rankF (NW n cash d ps q) i:=by rw [rankF_succ,hNi];simp
      have HRK:=jj hrk;clear hrk;go_wp2;go_roundw
      case rel=>exact⟨i+1,by omega,by go_num,na,nk,by rw [HRK.out],jj (by rw [HRK.out];exact NO.out),VL⟩
      case measure=>simp [intOf];omega
     ·have hrk:rankF (NW n cash d ps q) (i+1)=rankF (NW n cash d ps q) i+1:=by rw [rankF_succ,hNi];simp
      have HRK:=jj hrk;have hle:rankF (NW n cash d ps q) i<=i:=rankF_le _ i;have HFR:Hid (rwF n cash d ps q (rankF (NW n cash d ps q) i)=(i:Int)):=jj (by unfold rwF frN;rw [(frL_rank (NW n cash d ps q) n i h hNi).2]);obtain⟨rk,hrk2⟩:∃ rk,rk=rankF (NW n cash d ps q) i:=⟨_,rfl⟩;rw [<-hrk2] at NO HFR HRK hle;rw [<-hrk2];clear hrk hrk2;have HA3:Hid (ws.heap.size<=(wc.alloc (.cells #[.int .i64 (i:Int)] 3)).heap.size):=jj (by have:=VL.out.size;simp;omega)
      go_wp2_with (first
       | (at_builtin;refine wpList_append_own_at _ rfl (.tmp 57) (.tmp 59) 24 rfl ws.heap.size 3 i0 (.int .i64 0) 1 8 Tryz.underlying24 hi hz0 hz1 hz2 rfl (by decide) (.slice na rk nk) rk (ics (rwF n cash d ps q) rk) rfl (NO.out.alloc _) ⟨wc.heap.size,0,none⟩ 1 1 [.int .i64 (i:Int)] rfl rfl (new1 _ _ _) (one1 _ rfl) (by unfold maxLen;omega) (by omega) HA3.out ?_;intro v' w7 hown hgrow _ _;rw [<-HFR.out,ics_succ] at hown;obtain⟨na',nk',rfl⟩:=own_shape hown;have VL7:=jj ((VL.out.alloc VL.out.size (.cells #[.int .i64 (i:Int)] 3)).grown hgrow HA3.out (fun kk e=>((NO.out.alloc (.cells #[.int .i64 (i:Int)] 3)).lt kk e).1));have NO7:=jj hown;clear hown hgrow))
      go_roundw
      case rel=>exact⟨i+1,by omega,by go_num,na',nk',by rw [HRK.out],jj (by rw [HRK.out];exact NO7.out),VL7⟩
      case measure=>simp [intOf];omega
   ·obtain rfl:n=i:=by omega
    have e1:decide ((n:Int)<(n:Int))=false:=by simp
    obtain⟨M,hM⟩:∃ M,M=rankF (NW n cash d ps q) n:=⟨_,rfl⟩;have HMM:Hid (M=rwM n cash d ps q):=jj hM;rw [<-hM] at NO;rw [<-hM];have hMn:M<=n:=by rw [hM];exact rankF_le _ n
    have HM1:=jj hM;clear hM;have HQN:Hid (q<=n):=jj (Nat.le_trans HQR.out (rankF_le _ n));have HLV:=jj (fun g e=>(G.out.own.lt g e).2);have HLR:Hid (∀ i g,i<q->blk (ra2 i)=some g->g<ws.heap.size):=jj (fun i g hi e=>((G.out.row i hi).lt g (by rw [ownBlock_blk];exact e)).2);have G:=jj (G.out.below VL.out);have OF:=jj (rowIs_below OF.out VL.out OF.out.lt);have KW:=jj (jb KW.out VL.out);have HP:=jj (HP.out.mono VL.out jl);rcases Nat.eq_zero_or_pos M with h0M | h0M
    ·subst h0M;go_wp2;go_ret2;exact⟨q,va,vk,v1,rfl,⟨HQN.out,HQ.out,HMM.out.symm⟩,G.out.mat,HP.out,KW.out⟩
    ·have e3:((M:Int) == 0)=false:=by simp;omega
     obtain⟨ng,rfl,hng,hnc⟩:=own_some NO.out h0M;clear hng hnc;have HWV:=jj VL.out.size;have OF:Hid (wr.rowIs w.heap.size 4 n (bF (mkF n (FS n cash d ps q) (NW n cash d ps q) 0))):=jj (OF.out.congr (fun i hi=>by unfold bF mkF;simp));have HLE:Hid (w.heap.size<w.heap.size+1/\w.heap.size<ws.heap.size):=jj ⟨by omega,HOL.out⟩;clear VL HP;go_wp2
     go_loopw [13] (fun v13 wi=>∃ r:Nat,r<=M/\v13 = .int .i64 (r:Nat)/\Hid (RowsIn (w.heap.size+1) wi q (.slice va q vk) ra2 rc2 (rwM n cash d ps) (rwF n cash d ps))/\Hid (wi.ownsRow ws.heap.size 3 1 (.slice (some ⟨ng,0,none⟩) M nk) M (ics (rwF n cash d ps q) M))/\
      Hid (wi.rowIs w.heap.size 4 n (bF (mkF n (FS n cash d ps q) (NW n cash d ps q) r)))/\Hid (Below w.heap.size w wi)/\Hid (ws.heap.size<=wi.heap.size)) (fun v13 _=>M - (intOf v13).toNat)
     case atStart=>exact⟨0,by omega,rfl,G,NO,OF,KW,HWV⟩
     case round=>
      clear G NO OF KW HWV;obtain⟨r,hrM,rfl,G,NO,OF,KW,HWV⟩:=hrel;by_cases h:r<M
      ·have e2:decide ((r:Int)<(M:Int))=true:=by simpa using h
       have e2n:decide (r<M)=true:=by simpa using h
       obtain⟨fi,hfi⟩:∃ fi,fi=frN (NW n cash d ps q) n r:=⟨_,rfl⟩;have hsp:=frL_spec (NW n cash d ps q) n r (by rw [<-HM1.out];exact h);have HFI:Hid (NW n cash d ps q fi=true/\rankF (NW n cash d ps q) fi=r):=jj (by rw [hfi];exact⟨hsp.1,hsp.2.2⟩);have hfin:fi<n:=by rw [hfi];exact hsp.2.1
       obtain⟨ng2,hng2,_,hnc2⟩:=own_some NO.out h0M;have hgg:ng2=ng:=by injection hng2 with e;injection e with e;exact e.symm
       subst hgg;have cr:=hnc2 r _ (ics_get _ M r h);have er:ic (rwF n cash d ps q) r = .int .i64 (fi:Int):=by unfold ic rwF;rw [<-hfi]
       rw [er] at cr;have HFE:=jj hfi
       have ixn:∀ W,(Instr.indexAt 24 (.slice (some ⟨ng2,0,none⟩) M nk) (.int .i64 (r:Int))).run Tryz.prog W = .ok (.pointer (some ⟨ng2,r,none⟩)) W:=fun W=>by
        have h9:=run_indexAt_opt 24 ints_s ints_z (some ⟨ng2,0,none⟩) ng2 0 M nk (fun _=>rfl) .i64 r (by omega) (by omega) W;simpa using h9
       have ixf:=fun W=>ixB w.heap.size n n fi hfin W
       have cf:=OF.out.cell hfin;have ff:=OF.out.frozen fi;simp only [bF] at cf;clear hfi hsp hng2 hnc2 er;go_wp2;go_roundw
       case rel=>
        refine⟨r+1,by omega,by go_num,jj (G.out.setFar HLE.out.1 _),jj (own_setFar NO.out HLE.out.2 _),jj ((OF.out.set fi _).congr (fun i hi=>?_)),jj (KW.out.setCell jl _),jj (by simp only [World.setCell,Array.size_modify];exact HWV.out)⟩;unfold bF mkF;by_cases ei:i=fi
        ·subst ei;rw [if_pos rfl];simp [HFI.out.1,HFI.out.2]
        ·rw [if_neg ei];by_cases hNi:NW n cash d ps q i=true
         ·have h2:rankF (NW n cash d ps q) i≠r:=fun e=>ei (by
           have h3:=(frL_rank (NW n cash d ps q) n i hi hNi).2;rw [HFE.out];unfold frN;rw [<-e,h3])
          by_cases h4:rankF (NW n cash d ps q) i<r
          ·simp [hNi,h4,show rankF (NW n cash d ps q) i<r+1 by omega]
          ·simp [hNi,h4,show ¬ rankF (NW n cash d ps q) i<r+1 by omega]
         ·simp [hNi]
       case measure=>simp [intOf];omega
      ·obtain rfl:M=r:=by omega
       have e2:decide ((M:Int)<(M:Int))=false:=by simp
       have hqn:=HQN.out;have HA3:Hid (w.heap.size+1<=(wr.alloc (.cells #[.slice (some ⟨ng,0,none⟩) M nk] 24)).heap.size):=jj (by have:=HWV.out;have:=HWW.out;simp;omega)
       go_wp2_with (first
        | (at_builtin;go_loud (refine wpList_append_own_at _ rfl (.tmp 78) (.tmp 80) 25 rfl (w.heap.size+1) 24 j0 (.slice none 0 0) 1 24 Tryz.underlying25 hj hy0 hy1 hy2 rfl (by decide) (.slice va q vk) q (rowCells ra2 (rwM n cash d ps) rc2 q) rfl (G.out.own.alloc _) ⟨wr.heap.size,0,none⟩ 1 1 [.slice (some ⟨ng,0,none⟩) M nk] rfl rfl (new1 _ _ _) (one1 _ rfl) (by unfold maxLen;omega) (by omega) HA3.out ?_;intro v' w7 hown hgrow _ hblk;rw [HMM.out] at hown;have NO2:Hid (wr.ownsRow ws.heap.size 3 1 (.slice (some ⟨ng,0,none⟩) (rwM n cash d ps q) nk) (rwM n cash d ps q) (ics (rwF n cash d ps q) (rwM n cash d ps q))):=jj (by rw [<-HMM.out];exact NO.out);obtain⟨va',vk',rfl⟩:=own_shape hown;have HGR:=jj hgrow;have G7:=jj (G.out.pushR HWW.out NO2.out HLV.out HLR.out _ hgrow hblk hown);have KW7:=jj ((KW.out.alloc KW.out.size (.cells #[.slice (some ⟨ng,0,none⟩) M nk] 24)).grown hgrow (by have:=KW.out.size;simp;omega) (fun kk e=>by have h1:=((G.out.own.alloc (.cells #[.slice (some ⟨ng,0,none⟩) M nk] 24)).lt kk e).1;omega));clear hown hgrow hblk)))
       have OF7:Hid (w7.rowIs w.heap.size 4 n (bF (FS n cash d ps (q+1)))):=jj (((OF.out.alloc _).of_block (HGR.out.block w.heap.size (by have:=OF.out.lt;simp;omega) (fun e=>by have:=(G.out.own.lt w.heap.size e.symm).1;omega))).congr (fun i hi=>by
        unfold bF mkF;rw [fs_succ];by_cases hNi:NW n cash d ps q i=true
        ·have h2:=(frL_rank (NW n cash d ps q) n i hi hNi).1;rw [<-HM1.out] at h2;simp [hNi,h2]
        ·simp [hNi]))
       have HW7:Hid (w.heap.size+1<=w7.heap.size):=jj (Nat.le_trans HA3.out HGR.out.size)
       have HQ7:Hid (∀ r,r<q+1->0<rwM n cash d ps r):=jj (fun r hr=>by
        by_cases e:r=q
        ·rw [e,<-HMM.out];exact h0M
        ·exact HQ.out r (by omega))
       have HQR7:Hid (q+1<=rankF (FS n cash d ps (q+1)) n):=jj (by rw [fs_rank,<-HM1.out];have:=HQR.out;omega);go_roundw
       case rel=>exact⟨q+1,HQ7,HQR7,va',vk',_,_,rfl,G7,OF7,KW7,HW7⟩
       case measure=>simp only;omega
end Go.Proofs.YtgmopcncbpdniaaGreat
