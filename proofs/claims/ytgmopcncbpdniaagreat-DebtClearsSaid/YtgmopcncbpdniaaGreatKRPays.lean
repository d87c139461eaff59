import Derived.Test.YtgmopcncbpdniaaGreatKShelf
import Derived.Test.YtgmopcncbpdniaaGreatKInt5
import Derived.Test.YtgmopcncbpdniaaGreatKPlainN
import Derived.Test.YtgmopcncbpdniaaGreatKPlainFx
import Derived.Deep.DeepCutAuto
import Derived.Deep.CutBlock
import Derived.Test.YtgmopcncbpdniaaGreatKRSol
set_option linter.unusedVariables false
set_option linter.unusedSimpArgs false
namespace Go.Proofs.YtgmopcncbpdniaaGreat
open Go.RowKit
attribute [local go_sem ↓] Go.wp_at_zero Go.wp_at_succ
theorem cmp_no {a b:Rat} (h:¬ a<b):decide (cmpR a b<0)=false:=by rw [cmpR_lt];simpa using h
theorem cmp_le {a b:Rat} (h:a<=b):decide (0<cmpR a b)=false:=by
 unfold cmpR;by_cases h1:a<b
 ·rw [if_pos h1];decide
 ·rw [if_neg h1,if_pos (by have:=Rat.not_lt.1 h1;grind)];decide
set_option maxHeartbeats 16000000 in
set_option maxRecDepth 100000 in
theorem rpays_any (vc vd vf:Value) (n:Nat) (cash:Nat->Int) (d:Nat->Nat->Int) (F:Nat->Bool) (p:Nat->Rat) (w:World) (hc:Ints w vc n cash) (hm:Mat w vd n (fun _=>n) d) (hf:Bsl w vf n F) (hn0:0<n) (hn:n<=8)
  (hC:∀ i,i<n->0<=cash i/\cash i<=1000) (hd:∀ i j,0<=d i j) (hR:∀ i j,i<n->j<n->d i j<=1000) (hT:∀ i,i<n->sumF (d i) n<=100000)
  (hS:Shr n (shQ n d)) (hF:NoClosed n (shQ n d) (fun i=>F i=true)) (hp:SolF n (cashQ cash) (totQ n d) (shQ n d) F p) (hp0:∀ i,i<n->0<=p i) (hp1:∀ i,i<n->p i<=totQ n d i) (hD:∀ i,i<n->MaxD (p i).num.natAbs/\MaxD (p i).den) :
  Calls Tryz.prog 55 #[vc,vd,vf,.bool false] w fun e w'=>∃ v,e = .returned (.tuple #[v,.bool true])/\VSl w' v n p 1000/\Below w.heap.size w w':=by
 have HDM:=jj hm;have HCM:=jj hc;have HFM:=jj hf;obtain⟨da,db,do_,dc,ra,rd,ro,rc,rfl,hdm⟩:=hm;obtain⟨ca,cb,co,cc,rfl,hcs⟩:=hc;obtain⟨fa,fb,fo,fc,rfl,hfs⟩:=hf;have HM:=jj hdm;have HCS:=jj hcs;have HFS:=jj hfs;have HD0:=jj hd;have HR0:=jj hR;have HT0:=jj hT;have HC0:=jj hC;have HFR:Hid (∀ i,i<n->freB F (rch (owes d) n) n i=false):=jj (fun i hi=>fre_none hd hF i hi);have HKR:=jj (fun (y:Nat->Rat) (hy:∀ i,i<n->sumQ (fun j=>sysQ n cash d F (freB F (rch (owes d) n) n) (-1) i j*y j) n=0)=>sys_kernel (cash:=cash) hS HFR.out hF hy);have HPY:Hid (∀ i,i<n->sumQ (fun j=>sysQ n cash d F (freB F (rch (owes d) n) n) (-1) i j*p j) n=sysQ n cash d F (freB F (rch (owes d) n) n) (-1) i n):=jj (fun i hi=>sys_pays HFR.out hp i hi);have HP0:=jj hp0;have HP1:=jj hp1;have HPS:=jj hp;have HDD:=jj hD;have hmk:=mkBn n (by omega);clear hdm hcs hfs hd hR hT hC hS hF hp hp0 hp1 hD;go_enter Tryz.func55,Tryz.ntmps55;go_wp2_with (first | (go_at_call 88;(with_reducible refine (reach_any _ n d _ HDM.out hn0 hn).mono ?_);rintro e w2 ⟨v2,rfl,⟨Bq,t,tk,rb,rcs,rfl,hbm⟩,hb2⟩;have BM:=jj hbm;have KW:=jj hb2;clear hbm hb2));obtain⟨R,hRe⟩:∃ R,R=rch (owes d) n:=⟨_,rfl⟩;rw [<-hRe] at BM HFR HKR HPY;clear hRe;have RI0:=jj ((World.rowIs_made w2 (.bool false) n 4).congr (g:=bF (fun j=>decide (j<0) && freB F R n j)) (fun j hj=>by simp [bF]));have V0:=jj (boxes1 w2 (.cells (madeCells #[.bool false] n) 4));go_loopw [13,14,15,16] (fun v13 v14 v15 v16 wr=>∃ i:Nat,i<=n/\v13 = .int .i64 (i:Nat)/\Hid (wr.rowIs w2.heap.size 4 n (bF (fun j=>decide (j<i) && freB F R n j)))/\Hid (Below w2.heap.size w2 wr)) (fun v13 _ _ _ _=>n - (intOf v13).toNat)
 case atStart=>exact⟨0,by omega,rfl,RI0,V0⟩
 case round=>
  clear RI0 V0;obtain⟨i,hi,rfl,RI,VL⟩:=hrel;obtain⟨wq,rfl⟩:∃ wq:World,wq=wr:=⟨_,rfl⟩;by_cases h:i<n
  ·have e1:decide ((i:Int)<(n:Int))=true:=by simpa using h
   have e1n:decide (i<n)=true:=by simpa using h
   have KWq:=jj (jb KW.out VL.out);have BMq:=jj (BM.out.below VL.out jl);have ixi:=fun W=>ixBB t n tk i h W
   have ixii:=fun W=>ixB (rb i) n (rcs i) i h W
   have ixf:=fun W=>ixF HFS.out i fc h W
   have yf:=(HFS.out.mono KWq.out jl).cell i h;simp only [bF] at yf;have y0:=BMq.out.hdr i h;have z0:=BMq.out.cell i i h h
   go_upto_region 6 with fail
   go_cut [14,15] (fun v14 v15 wx=>v14 = .bool (clsB F R i 0)/\v15 = .bool (fstB R i 0)/\Hid (Below wq.heap.size wq wx))
   case first=>
    have V1:=jj (jr wq);rcases hFi:F i with _ | _
    ·rw [hFi] at yf;go_wp2_with fail;go_meet
     case rel=>exact⟨by simp [clsB,hFi],rfl,V1⟩
    ·rw [hFi] at yf;go_wp2_with fail;go_meet
     case rel=>exact⟨by simp [clsB,hFi],rfl,V1⟩
   case rest=>
    obtain⟨rfl,rfl,V1⟩:=hcut;clear yf y0 z0 ixii;go_wp2_with fail;go_loopw [14,15,16] (fun v14 v15 v16 wr=>∃ j:Nat,j<=n/\v16 = .int .i64 (j:Nat)/\v14 = .bool (clsB F R i j)/\v15 = .bool (fstB R i j)/\Hid (Below wq.heap.size wq wr)) (fun _ _ v16 _=>n - (intOf v16).toNat)
    case atStart=>exact⟨0,by omega,rfl,rfl,rfl,V1⟩
    case round=>
     clear V1;obtain⟨j,hj,rfl,rfl,rfl,V1⟩:=hrel;by_cases h2:j<n
     ·have e2:decide ((j:Int)<(n:Int))=true:=by simpa using h2
      have e2n:decide (j<n)=true:=by simpa using h2
      have KWr:=jj (jb KWq.out V1.out);have BMr:=jj (BMq.out.below V1.out jl);have ixj:=fun W=>ixBB t n tk j h2 W
      have ixij:=fun W=>ixB (rb i) n (rcs i) j h2 W
      have ixji:=fun W=>ixB (rb j) n (rcs j) i h W
      have ixfj:=fun W=>ixF HFS.out j fc h2 W
      have yf:=(HFS.out.mono KWr.out jl).cell j h2;simp only [bF] at yf;have y0:=BMr.out.hdr i h;have y1:=BMr.out.hdr j h2;have z0:=BMr.out.cell i j h h2;have z1:=BMr.out.cell j i h2 h;rcases hR1:R i j with _ | _
      ·rw [hR1] at z0;go_wp2;go_roundw
       case rel=>exact⟨j+1,by omega,by go_num,by simp [clsB,hR1],by simp [fstB,hR1],V1⟩
       case measure=>simp [intOf];omega
      ·rw [hR1] at z0;obtain⟨ge,hge⟩:∃ b,b=decide ((i:Int)<=(j:Int)):=⟨_,rfl⟩;have hge2:ge=decide (i<=j):=by rw [hge];simp
       have HGE:=jj hge2;rcases hcl:clsB F R i j with _ | _ <;> rcases hfs:fstB R i j with _ | _ <;> rcases hFj:F j with _ | _ <;> rw [hFj] at yf
       all_goals
        go_wp2;go_roundw
        case rel=>exact⟨j+1,by omega,by go_num,by simp [clsB,hR1,hcl,hFj],by simp [fstB,hR1,hfs],V1⟩
        case measure=>simp [intOf];omega
     ·obtain rfl:n=j:=by omega
      have e2:decide ((n:Int)<(n:Int))=false:=by simp
      have RI2:=jj (rowIs_below RI.out V1.out RI.out.lt);have ixs:=fun W=>ixB w2.heap.size n n i h W
      have y2:=RI2.out.cell h;have y3:=RI2.out.frozen i;have VV:=jj (jb VL.out V1.out);rcases hcl:clsB F R i n with _ | _
      all_goals
       go_wp2;go_roundw
       case rel=>exact⟨i+1,by omega,by go_num,jj ((RI2.out.set i _).congr (fun l hl=>by
        by_cases e:l=i
        ·subst e;simp [bF,freB,hcl]
        ·have:decide (l<i+1)=decide (l<i):=by simp;omega
         simp [bF,e,this])),jj (VV.out.setCell jl _)⟩
       case measure=>simp [intOf];omega
  ·obtain rfl:n=i:=by omega
   have e1:decide ((n:Int)<(n:Int))=false:=by simp
   have KW2:=jj (jb KW.out VL.out)
   have BF:Hid (Bsl wq (.slice (some ⟨w2.heap.size,0,none⟩) n n) n (freB F R n)):=jj ⟨_,w2.heap.size,0,n,rfl,⟨Nat.le_refl n,fun _=>rfl,fun _=>RI.out.lt,fun j hj=>by
    rw [Nat.zero_add,RI.out.cell hj];simp [bF,hj],fun e=>by cases e⟩⟩
   have RI3:Hid (wq.rowIs w2.heap.size 4 n (bF (fun _=>false))):=jj (RI.out.congr (fun j hj=>by simp [bF,hj,HFR.out j hj]));clear RI BM;go_wp2_with (first | (go_at_call 89;(with_reducible refine (rsolve_any _ _ _ _ (-1) n cash d F (freB F R n) _ (HCM.out.mono KW2.out jl) (HDM.out.mono KW2.out jl) (HFM.out.mono KW2.out jl) BF.out hn0 hn HC0.out HD0.out HR0.out HT0.out (by omega)).mono ?_);rintro e w3 ⟨h3 | ⟨-,y,hy,i,hi,hyi⟩,hb3⟩;rotate_left;exact absurd (HKR.out y hy i hi) hyi;obtain⟨v3,x,xs,rfl,hq3,hu3⟩:=h3;have HXP:=jj ((hu3 p).1 HPY.out);have HB3:=jj hb3;have HQ3:=jj (hq3.sl hn0);clear hu3 hb3 hq3))
   have HP:Hid (VSl w3 v3 n p 1000):=jj ((VSl.of (HQ3.out.tight (fun j hj=>by
    have e:=HXP.out j hj;have h1:=HDD.out j hj;rw [e] at h1;exact⟨maxD_nd h1.1,by unfold qD;rw [Int.natAbs_natCast];exact maxD_nd h1.2⟩))).congr (fun j hj=>(HXP.out j hj).symm))
   have RI4:=jj (rowIs_below RI3.out HB3.out RI3.out.lt);have KW4:=jj (jb KW2.out HB3.out);clear HQ3 HXP RI3 BF KW2 HKR HPY HDD VL KW;obtain⟨g,gc,rfl,hgc,hgl,hgv⟩:=HP.out.val;have HV:=jj hgv;have HGL:=jj hgl;clear hgv hgl;have V0:=jj (jr w3);go_wp2_with fail;go_loopw [19] (fun v19 wr=>∃ i:Nat,i<=n/\v19 = .int .i64 (i:Nat)/\Hid (Below w3.heap.size w3 wr)) (fun v19 _=>n - (intOf v19).toNat)
   case atStart=>exact⟨0,by omega,rfl,V0⟩
   case round=>
    clear V0;obtain⟨i,hi,rfl,V3⟩:=hrel;by_cases h:i<n
    ·have e1:decide ((i:Int)<(n:Int))=true:=by simpa using h
     have e1n:decide (i<n)=true:=by simpa using h
     have RI5:=jj (rowIs_below RI4.out V3.out RI4.out.lt);have ixs:=fun W=>ixB w2.heap.size n n i h W
     have y2:=RI5.out.cell h;simp only [bF] at y2;go_wp2;go_roundw
     case rel=>exact⟨i+1,by omega,by go_num,V3⟩
     case measure=>simp [intOf];omega
    ·obtain rfl:n=i:=by omega
     have e1:decide ((n:Int)<(n:Int))=false:=by simp
     go_wp2;go_loopw [28] (fun v28 wr=>∃ i:Nat,i<=n/\v28 = .int .i64 (i:Nat)/\Hid (Below w3.heap.size w3 wr)) (fun v28 _=>n - (intOf v28).toNat)
     case atStart=>exact⟨0,by omega,rfl,V3⟩
     case round=>
      clear V3;obtain⟨i,hi,rfl,KW3⟩:=hrel;by_cases h:i<n
      ·have e1:decide ((i:Int)<(n:Int))=true:=by simpa using h
       have e1n:decide (i<n)=true:=by simpa using h
       have KW:=jj (jb KW4.out KW3.out);have ixp:=fun W=>ixV g n gc i h W
       have ixd:=fun W=>ixM HM.out.top i dc h W
       have ixf:=fun W=>ixF HFS.out i fc h W
       have ixc:=fun W=>ixI HCS.out i cc h W
       obtain⟨s5,a5,n5,c5,t5,b5,l5,k5,z0,z1,z2,z3,zq⟩:=HV.out i h;have QK:=jj (QV.mono zq KW3.out jl);have HZ:=jj (And.intro z0 (And.intro z1 (And.intro z2 z3)));have y0:=jj ((HM.out.mono KW.out jl).top.cell i h);have y1:=jj ((HFS.out.mono KW.out jl).cell i h);have y2:=jj ((HCS.out.mono KW.out jl).cell i h);have HW:Hid (-9223372036854775808<=cash i/\cash i<9223372036854775808):=jj (by have:=HC0.out i h;omega);have HT:Hid (-9223372036854775808<=sumF (d i) n/\sumF (d i) n<9223372036854775808):=jj (by have:=HT0.out i h;have:=sumF_nn (HD0.out i) n;omega);have HDT:Hid (∀ l,l<n->-(1099511627776:Int)<=d i l/\d i l<=1099511627776):=jj (fun l hl=>by have:=HR0.out i l h hl;have:=HD0.out i l;omega);have d1:=cmp_no (Rat.not_lt.2 (HP0.out i h));have d2:decide (0<cmpR (p i) ((sumF (d i) n:Int):Rat))=false:=cmp_le (HP1.out i h);clear z0 z1 z2 z3 zq;rcases hFi:F i with _ | _
       ·have keepR:Hid (∀ w',Below wr.heap.size wr w'->w'.cell? ⟨g,i*4,none⟩=some (.bool s5)/\w'.cell? ⟨g,i*4+1,none⟩=some (.slice a5 n5 c5)/\w'.cell? ⟨g,i*4+2,none⟩=some (.bool t5)/\w'.cell? ⟨g,i*4+3,none⟩=some (.slice b5 l5 k5)/\w'.cell? ⟨db,do_+i,none⟩=some (.slice (ra i) n (rc i))/\w'.cell? ⟨fb,fo+i,none⟩=some (.bool false)/\w'.cell? ⟨cb,co+i,none⟩=some (.int .i64 (cash i))):=
         jj (fun w' hb=>⟨bel1 hb (bel1 KW3.out HZ.out.1 HGL.out) (jm HGL.out KW3.out.size),bel1 hb (bel1 KW3.out HZ.out.2.1 HGL.out) (jm HGL.out KW3.out.size),bel1 hb (bel1 KW3.out HZ.out.2.2.1 HGL.out) (jm HGL.out KW3.out.size),bel1 hb (bel1 KW3.out HZ.out.2.2.2 HGL.out) (jm HGL.out KW3.out.size),
          bel1 hb y0.out (jm (HM.out.top.lt (by omega)) KW.out.size),(by have e:=bel1 hb y1.out (jm (HFS.out.lt (by omega)) KW.out.size);simp only [bF,hFi] at e;exact e),bel1 hb y2.out (jm (HCS.out.lt (by omega)) KW.out.size)⟩)
        have VL:=jj (jr wr).drew;go_wp2;refine wp_region_held_drew (S:=fun w'=>w'.cell? ⟨g,i*4,none⟩=some (.bool s5)/\w'.cell? ⟨g,i*4+1,none⟩=some (.slice a5 n5 c5)/\w'.cell? ⟨g,i*4+2,none⟩=some (.bool t5)/\w'.cell? ⟨g,i*4+3,none⟩=some (.slice b5 l5 k5)/\w'.cell? ⟨db,do_+i,none⟩=some (.slice (ra i) n (rc i))/\w'.cell? ⟨fb,fo+i,none⟩=some (.bool false)/\w'.cell? ⟨cb,co+i,none⟩=some (.int .i64 (cash i))) (by kernel_rfl) (keepR.out _ VL.out) (fun hHeld=>?_);refine wtk_begin [0,1,2,3,4] ?_
        iterate 5 (refine wtk (v:=?_) rfl (by kernel_rfl) (fun _ _ _ h=>h) (by kernel_rfl) ?_ (by assumption) ?_;rotate_left;(focus intro w0 hSw;(try dsimp only at hSw);go_simp;all_goals (with_reducible rfl));simp only [Act.put,js,jz,jc])
        refine wtk_end ?_;refine wpAnyH_ready (rs:=[5]) (by kernel_rfl) (by simp) ?_;refine AllReadyH.cons rfl (fun Kn hKn=>?_) AllReadyH.nil;go_simp
        (go_at_call 29;(with_reducible refine (qv_sign (p i) 1000 _ (QK.out.mono VL.out jl)).mono ?_);rintro e w3 ⟨rfl,hb3⟩;have VL:=jj (jb VL.out hb3))
        go_wp2_with fail;refine hKn.out _ _ (keepR.out _ VL.out) (fun hHeld=>?_);clear hKn Kn
        (try simp only [Act.put,js,jz,jc])
        refine wtk_begin [6,7,8,9,10,11,12,13,14,15] ?_
        iterate 10 (refine wtk (v:=?_) rfl (by kernel_rfl) (fun _ _ _ h=>h) (by kernel_rfl) ?_ (by assumption) ?_;rotate_left;(focus intro w0 hSw;(try dsimp only at hSw);go_simp;all_goals (with_reducible rfl));simp only [Act.put,js,jz,jc])
        refine wtk_end ?_;refine wpAnyH_ready (rs:=[16]) (by kernel_rfl) (by simp) ?_;refine AllReadyH.cons rfl (fun Kn hKn=>?_) AllReadyH.nil;go_simp
        (go_at_call 17;(with_reducible refine (total_any _ n (d i) _ ((HM.out.row i h).ints.mono (jb KW.out VL.out) jl) (by omega) HDT.out).mono ?_);rintro e w4 ⟨rfl,hd4⟩;have VL:=jj (VL.out.trans ((hd4.below _).mono VL.out.size)))
        go_wp2_with fail;refine hKn.out _ _ (keepR.out _ VL.out) (fun hHeld=>?_);clear hKn Kn
        (try simp only [Act.put,js,jz,jc])
        refine wpAnyH_ready (rs:=[17]) (by kernel_rfl) (by simp) ?_;refine AllReadyH.cons rfl (fun Kn hKn=>?_) AllReadyH.nil;go_simp
        (go_at_call 16;(with_reducible refine (qv_whole (sumF (d i) n) _ HT.out.1 HT.out.2).mono ?_);rintro e w5 ⟨r5,rfl,hr5,hb5⟩;obtain⟨s6,a6,n6,c6,t6,b6,l6,k6,rfl,QT⟩:=hr5.shape;clear hr5;have VL:=jj (jb VL.out hb5))
        go_wp2_with fail;refine hKn.out _ _ (keepR.out _ VL.out) (fun hHeld=>?_);clear hKn Kn
        (try simp only [Act.put,js,jz,jc])
        refine wpAnyH_ready (rs:=[18]) (by kernel_rfl) (by simp) ?_;refine AllReadyH.cons rfl (fun Kn hKn=>?_) AllReadyH.nil;go_simp
        (go_at_call 14;(with_reducible refine (qv_cmp _ _ (p i) ((sumF (d i) n:Int):Rat) 1000 _ (QK.out.mono VL.out jl) (QT.out.le (by omega)) (by omega)).mono ?_);rintro e w6 ⟨rfl,hb6⟩;have VL:=jj (jb VL.out hb6))
        go_wp2_with fail;refine hKn.out _ _ (keepR.out _ VL.out) (fun hHeld=>?_);clear hKn Kn
        (try simp only [Act.put,js,jz,jc])
        refine wtk_begin [19,20,21,22,23,24,25,26] ?_
        iterate 8 (refine wtk (v:=?_) rfl (by kernel_rfl) (fun _ _ _ h=>h) (by kernel_rfl) ?_ (by assumption) ?_;rotate_left;(focus intro w0 hSw;(try dsimp only at hSw);go_simp;all_goals (with_reducible rfl));simp only [Act.put,js,jz,jc])
        refine wtk_end ?_;refine wtk_begin [27,28,29,30,31,32,33,34,35,36,37,38,39,40,41,42] ?_
        iterate 16 (refine wtk_un rfl (by kernel_rfl) (fun _ _ _ h=>h) (by kernel_rfl) (by assumption) ?_;simp only [jt,jd,je,Act.put,js,jz,jc])
        refine wtk_end ?_;refine wtk_begin [43,44] ?_
        iterate 2 (refine wtk (v:=?_) rfl (by kernel_rfl) (fun _ _ _ h=>h) (by kernel_rfl) ?_ (by assumption) ?_;rotate_left;(focus intro w0 hSw;(try dsimp only at hSw);go_simp;all_goals (with_reducible rfl));simp only [Act.put,js,jz,jc])
        refine wtk_end ?_;refine wpAnyH_done (by kernel_rfl) ?_ _;go_wp2;go_roundw
        case rel=>exact⟨i+1,by omega,by go_num,jj (jb KW3.out VL.out)⟩
        case measure=>simp [intOf];omega
       ·have d3:(cmpR (p i) (((cash i:Int):Rat)+sumQ (fun j=>p j*shQ n d j i) n) == 0)=true:=by
         have this:cmpR (p i) (((cash i:Int):Rat)+sumQ (fun j=>p j*shQ n d j i) n)=0:=(cmpR_zero _ _).2 (HPS.out.on i h hFi);rw [this];rfl
        have keepR:Hid (∀ w',Below wr.heap.size wr w'->w'.cell? ⟨g,i*4,none⟩=some (.bool s5)/\w'.cell? ⟨g,i*4+1,none⟩=some (.slice a5 n5 c5)/\w'.cell? ⟨g,i*4+2,none⟩=some (.bool t5)/\w'.cell? ⟨g,i*4+3,none⟩=some (.slice b5 l5 k5)/\w'.cell? ⟨db,do_+i,none⟩=some (.slice (ra i) n (rc i))/\w'.cell? ⟨fb,fo+i,none⟩=some (.bool true)/\w'.cell? ⟨cb,co+i,none⟩=some (.int .i64 (cash i))):=
         jj (fun w' hb=>⟨bel1 hb (bel1 KW3.out HZ.out.1 HGL.out) (jm HGL.out KW3.out.size),bel1 hb (bel1 KW3.out HZ.out.2.1 HGL.out) (jm HGL.out KW3.out.size),bel1 hb (bel1 KW3.out HZ.out.2.2.1 HGL.out) (jm HGL.out KW3.out.size),bel1 hb (bel1 KW3.out HZ.out.2.2.2 HGL.out) (jm HGL.out KW3.out.size),
          bel1 hb y0.out (jm (HM.out.top.lt (by omega)) KW.out.size),(by have e:=bel1 hb y1.out (jm (HFS.out.lt (by omega)) KW.out.size);simp only [bF,hFi] at e;exact e),bel1 hb y2.out (jm (HCS.out.lt (by omega)) KW.out.size)⟩)
        have VL:=jj (jr wr).drew;go_wp2;refine wp_region_held_drew (S:=fun w'=>w'.cell? ⟨g,i*4,none⟩=some (.bool s5)/\w'.cell? ⟨g,i*4+1,none⟩=some (.slice a5 n5 c5)/\w'.cell? ⟨g,i*4+2,none⟩=some (.bool t5)/\w'.cell? ⟨g,i*4+3,none⟩=some (.slice b5 l5 k5)/\w'.cell? ⟨db,do_+i,none⟩=some (.slice (ra i) n (rc i))/\w'.cell? ⟨fb,fo+i,none⟩=some (.bool true)/\w'.cell? ⟨cb,co+i,none⟩=some (.int .i64 (cash i))) (by kernel_rfl) (keepR.out _ VL.out) (fun hHeld=>?_);refine wtk_begin [0,1,2,3,4] ?_
        iterate 5 (refine wtk (v:=?_) rfl (by kernel_rfl) (fun _ _ _ h=>h) (by kernel_rfl) ?_ (by assumption) ?_;rotate_left;(focus intro w0 hSw;(try dsimp only at hSw);go_simp;all_goals (with_reducible rfl));simp only [Act.put,js,jz,jc])
        refine wtk_end ?_;refine wpAnyH_ready (rs:=[5]) (by kernel_rfl) (by simp) ?_;refine AllReadyH.cons rfl (fun Kn hKn=>?_) AllReadyH.nil;go_simp
        (go_at_call 29;(with_reducible refine (qv_sign (p i) 1000 _ (QK.out.mono VL.out jl)).mono ?_);rintro e w3 ⟨rfl,hb3⟩;have VL:=jj (jb VL.out hb3))
        go_wp2_with fail;refine hKn.out _ _ (keepR.out _ VL.out) (fun hHeld=>?_);clear hKn Kn
        (try simp only [Act.put,js,jz,jc])
        refine wtk_begin [6,7,8,9,10,11,12,13,14,15] ?_
        iterate 10 (refine wtk (v:=?_) rfl (by kernel_rfl) (fun _ _ _ h=>h) (by kernel_rfl) ?_ (by assumption) ?_;rotate_left;(focus intro w0 hSw;(try dsimp only at hSw);go_simp;all_goals (with_reducible rfl));simp only [Act.put,js,jz,jc])
        refine wtk_end ?_;refine wpAnyH_ready (rs:=[16]) (by kernel_rfl) (by simp) ?_;refine AllReadyH.cons rfl (fun Kn hKn=>?_) AllReadyH.nil;go_simp
        (go_at_call 17;(with_reducible refine (total_any _ n (d i) _ ((HM.out.row i h).ints.mono (jb KW.out VL.out) jl) (by omega) HDT.out).mono ?_);rintro e w4 ⟨rfl,hd4⟩;have VL:=jj (VL.out.trans ((hd4.below _).mono VL.out.size)))
        go_wp2_with fail;refine hKn.out _ _ (keepR.out _ VL.out) (fun hHeld=>?_);clear hKn Kn
        (try simp only [Act.put,js,jz,jc])
        refine wpAnyH_ready (rs:=[17]) (by kernel_rfl) (by simp) ?_;refine AllReadyH.cons rfl (fun Kn hKn=>?_) AllReadyH.nil;go_simp
        (go_at_call 16;(with_reducible refine (qv_whole (sumF (d i) n) _ HT.out.1 HT.out.2).mono ?_);rintro e w5 ⟨r5,rfl,hr5,hb5⟩;obtain⟨s6,a6,n6,c6,t6,b6,l6,k6,rfl,QT⟩:=hr5.shape;clear hr5;have VL:=jj (jb VL.out hb5))
        go_wp2_with fail;refine hKn.out _ _ (keepR.out _ VL.out) (fun hHeld=>?_);clear hKn Kn
        (try simp only [Act.put,js,jz,jc])
        refine wpAnyH_ready (rs:=[18]) (by kernel_rfl) (by simp) ?_;refine AllReadyH.cons rfl (fun Kn hKn=>?_) AllReadyH.nil;go_simp
        (go_at_call 14;(with_reducible refine (qv_cmp _ _ (p i) ((sumF (d i) n:Int):Rat) 1000 _ (QK.out.mono VL.out jl) (QT.out.le (by omega)) (by omega)).mono ?_);rintro e w6 ⟨rfl,hb6⟩;have VL:=jj (jb VL.out hb6))
        go_wp2_with fail;refine hKn.out _ _ (keepR.out _ VL.out) (fun hHeld=>?_);clear hKn Kn
        (try simp only [Act.put,js,jz,jc])
        refine wtk_begin [19,20,21,22,23,24,25,26,27,28,29,30,31,32,33,34,36,37,38] ?_
        iterate 19 (refine wtk (v:=?_) rfl (by kernel_rfl) (fun _ _ _ h=>h) (by kernel_rfl) ?_ (by assumption) ?_;rotate_left;(focus intro w0 hSw;(try dsimp only at hSw);go_simp;all_goals (with_reducible rfl));simp only [Act.put,js,jz,jc])
        refine wtk_end ?_;refine wpAnyH_ready (rs:=[35]) (by kernel_rfl) (by simp) ?_;refine AllReadyH.cons rfl (fun Kn hKn=>?_) AllReadyH.nil;go_simp
        (go_at_call 16;(with_reducible refine (qv_whole (cash i) _ HW.out.1 HW.out.2).mono ?_);rintro e w7 ⟨r7,rfl,hr7,hb7⟩;obtain⟨s7,a7,n7,c7,t7,b7,l7,k7,rfl,QC⟩:=hr7.shape;clear hr7;have VL:=jj (jb VL.out hb7))
        go_wp2_with fail;refine hKn.out _ _ (keepR.out _ VL.out) (fun hHeld=>?_);clear hKn Kn
        (try simp only [Act.put,js,jz,jc])
        refine wpAnyH_ready (rs:=[39]) (by kernel_rfl) (by simp) ?_;refine AllReadyH.cons rfl (fun Kn hKn=>?_) AllReadyH.nil;go_simp
        (go_at_call 19;(with_reducible refine (recv_any _ _ n i d p 1000 _ (HDM.out.mono (jb KW.out VL.out) jl) (HP.out.mono ((jb KW3.out VL.out)) jl) h hn HD0.out HR0.out HT0.out (by omega) (by omega)).mono ?_);rintro e w8 ⟨r8,rfl,hr8,hb8⟩;have hr8:=QV.of hr8;obtain⟨s8,a8,n8,c8,t8,b8,l8,k8,rfl,QR⟩:=hr8.shape;clear hr8;have QC:=jj (QC.out.mono hb8 jl);have VL:=jj (jb VL.out hb8))
        go_wp2_with fail;refine hKn.out _ _ (keepR.out _ VL.out) (fun hHeld=>?_);clear hKn Kn
        (try simp only [Act.put,js,jz,jc])
        refine wpAnyH_ready (rs:=[40]) (by kernel_rfl) (by simp) ?_;refine AllReadyH.cons rfl (fun Kn hKn=>?_) AllReadyH.nil;go_simp
        (go_at_call 18;(with_reducible refine (qv_add _ _ ((cash i:Int):Rat) (sumQ (fun j=>p j*shQ n d j i) n) (512*(1000+1)) _ (QC.out.le (by omega)) QR.out (by omega)).mono ?_);rintro e w9 ⟨r9,rfl,hr9,hb9⟩;obtain⟨s9,a9,n9,c9,t9,b9,l9,k9,rfl,QA⟩:=hr9.shape;clear hr9;have VL:=jj (jb VL.out hb9))
        go_wp2_with fail;refine hKn.out _ _ (keepR.out _ VL.out) (fun hHeld=>?_);clear hKn Kn
        (try simp only [Act.put,js,jz,jc])
        refine wpAnyH_ready (rs:=[41]) (by kernel_rfl) (by simp) ?_;refine AllReadyH.cons rfl (fun Kn hKn=>?_) AllReadyH.nil;go_simp
        (go_at_call 14;(with_reducible refine (qv_cmp _ _ (p i) (((cash i:Int):Rat)+sumQ (fun j=>p j*shQ n d j i) n) (2*(512*(1000+1))+1) _ ((QK.out.mono VL.out jl).le (by omega)) QA.out (by omega)).mono ?_);rintro e w10 ⟨rfl,hb10⟩;have VL:=jj (jb VL.out hb10))
        go_wp2_with fail;refine hKn.out _ _ (keepR.out _ VL.out) (fun hHeld=>?_);clear hKn Kn
        (try simp only [Act.put,js,jz,jc])
        refine wtk_begin [42,43,44] ?_
        iterate 3 (refine wtk (v:=?_) rfl (by kernel_rfl) (fun _ _ _ h=>h) (by kernel_rfl) ?_ (by assumption) ?_;rotate_left;(focus intro w0 hSw;(try dsimp only at hSw);go_simp;all_goals (with_reducible rfl));simp only [Act.put,js,jz,jc])
        refine wtk_end ?_;refine wpAnyH_done (by kernel_rfl) ?_ _;go_wp2;go_roundw
        case rel=>exact⟨i+1,by omega,by go_num,jj (jb KW3.out VL.out)⟩
        case measure=>simp [intOf];omega
      ·obtain rfl:n=i:=by omega
       have e1:decide ((n:Int)<(n:Int))=false:=by simp
       go_wp2;go_ret2;exact⟨_,rfl,HP.out.mono KW3.out jl,jb KW4.out KW3.out⟩
end Go.Proofs.YtgmopcncbpdniaaGreat
