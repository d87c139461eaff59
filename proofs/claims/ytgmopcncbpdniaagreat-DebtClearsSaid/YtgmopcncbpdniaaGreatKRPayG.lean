import Derived.Test.YtgmopcncbpdniaaGreatKShelf
import Derived.Test.YtgmopcncbpdniaaGreatKInt5
import Derived.Test.YtgmopcncbpdniaaGreatKFloat3
import Derived.Test.YtgmopcncbpdniaaGreatKPlainFr
import Derived.Test.YtgmopcncbpdniaaGreatKRPays
import Derived.Test.YtgmopcncbpdniaaGreatKRPayR
set_option linter.unusedVariables false
set_option linter.unusedSimpArgs false
namespace Go.Proofs.YtgmopcncbpdniaaGreat
open Go.RowKit
attribute [local go_sem ↓] Go.wp_at_zero Go.wp_at_succ
theorem QRow.rowV {w:World} {B n K k:Nat} {v:Value} {q:Nat->Rat} {xs:List Value} (h:QRow w B v n (qN q) (qD q) K xs) (h0:0<n) (hk:∀ j,j<n->nd (qN q j).natAbs<=k/\nd (qD q j).natAbs<=k) :
  ∃ g cap,v = .slice (some ⟨g,0,none⟩) n cap/\RowV w g n (fun _=>True) q (fun _=>k)/\B<=g/\n<=cap:=by
 have h1:=h.own;rcases h1.2 with ⟨_,e⟩ | ⟨g,cap,cur,hv,hbg,hg,hcap,hml,hsz,htk⟩
 ·omega
 ·subst hv;have hlt:g<w.heap.size:=(Array.getElem?_eq_some_iff.1 hg).1;have hc:=h1.cells (g:=g) rfl;refine⟨g,cap,rfl,⟨fun j hj=>?_,fun o=>h1.frozenAt o,hlt⟩,hbg,by omega⟩;obtain⟨s',a',m',c',t',a2',m2',c2',k1,k2,k3,k4,k5⟩:=h.val j hj
  have kk:∀ i u,xs[i]? = some u->w.cell? ⟨g,i,none⟩=some u:=fun i u hu=>by
   have:=hc i u hu;rw [add_at,Nat.zero_add] at this;exact this
  exact⟨s',a',m',c',t',a2',m2',c2',⟨kk _ _ k1,kk _ _ k2,kk _ _ k3,kk _ _ k4,hlt⟩,fun _=>QV.of (k5.tight (hk j hj).1 (hk j hj).2)⟩
theorem RowV.vsl {w:World} {g n cap k:Nat} {q:Nat->Rat} (h:RowV w g n (fun _=>True) q (fun _=>k)) (hc:n<=cap):VSl w (.slice (some ⟨g,0,none⟩) n cap) n q k:=
 ⟨g,cap,rfl,hc,h.lt,fun j hj=>by
  obtain⟨s,a,m,c,t,a2,m2,c2,h1,h2⟩:=h.cell j hj;exact⟨s,a,m,c,t,a2,m2,c2,h1.c0,h1.c1,h1.c2,h1.c3,h2 trivial⟩⟩
theorem maxD_qn {x:Rat} (h:MaxD x.num.natAbs/\MaxD x.den):nd x.num.natAbs<=1000/\nd ((x.den:Nat):Int).natAbs<=1000:=⟨maxD_nd h.1,by rw [Int.natAbs_natCast];exact maxD_nd h.2⟩
def bB:Nat->Nat
 | 0=>1000
 | i+1=>16*bB i+9
theorem bB_ge:∀ i,1000<=bB i
 | 0=>Nat.le_refl _
 | i+1=>by have:=bB_ge i;show 1000<=16*bB i+9;omega
theorem bB_le {i:Nat} (h:i<=4):bB i<=100000000:=by
 have:i=0\/i=1\/i=2\/i=3\/i=4:=by omega
 rcases this with rfl | rfl | rfl | rfl | rfl <;> decide
set_option maxHeartbeats 32000000 in
set_option maxRecDepth 100000 in
theorem rpays_gen (vc vd vf:Value) (ls:Bool) (n:Nat) (cash:Nat->Int) (d:Nat->Nat->Int) (F:Nat->Bool) (E:Prop) (x:Nat->Rat) (w:World) (hc:Ints w vc n cash) (hm:Mat w vd n (fun _=>n) d) (hf:Bsl w vf n F) (hn0:0<n) (hn:n<=4)
  (hC:∀ i,i<n->0<=cash i/\cash i<=1000) (hd:∀ i j,0<=d i j) (hRG:Rng n cash d)
  (hE:E->(ls=true\/∀ i,i<n->freB F (rch (owes d) n) n i=false)/\(∀ i,i<n->sumQ (fun j=>sysQ n cash d F (freB F (rch (owes d) n) n) (-1) i j*x j) n=sysQ n cash d F (freB F (rch (owes d) n) n) (-1) i n)/\
   ∀ i,i<n->0<=x i/\x i<=totQ n d i/\(F i=true->x i=hasP n (cashQ cash) (shQ n d) x i)) :
  Calls Tryz.prog 55 #[vc,vd,vf,.bool ls] w fun e w'=>((∃ g gc p,e = .returned (.tuple #[.slice (some ⟨g,0,none⟩) n gc,.bool true])/\w.heap.size<=g/\VSl w' (.slice (some ⟨g,0,none⟩) n gc) n p 100000000/\(E->∀ i,i<n->p i=x i))\/(e = .returned (.tuple #[.slice none 0 0,.bool false])/\¬ E))/\Below w.heap.size w w':=by
 have hR:∀ i j,i<n->j<n->d i j<=1000:=fun i j hi hj=>(hRG.deb i j hi hj).2
 have hT:∀ i,i<n->sumF (d i) n<=100000:=fun i hi=>(hRG.tot i hi).2
 have hn8:n<=8:=by omega
 have HDM:=jj hm;have HCM:=jj hc;have HFM:=jj hf;obtain⟨da,db,do_,dc,ra,rd,ro,rc,rfl,hdm⟩:=hm;obtain⟨ca,cb,co,cc,rfl,hcs⟩:=hc;obtain⟨fa,fb,fo,fc,rfl,hfs⟩:=hf;have HM:=jj hdm;have HCS:=jj hcs;have HFS:=jj hfs;have HD0:=jj hd;have HR0:=jj hR;have HT0:=jj hT;have HC0:=jj hC;have HE:=jj hE;have HKR:=jj (fun (one:Int) (y:Nat->Rat) (hy:∀ i,i<n->sumQ (fun j=>sysQ n cash d F (freB F (rch (owes d) n) n) one i j*y j) n=0)=>sys_kernel_all (cash:=cash) (mktQ_of hRG hd).sh hd hy);have HSM:=jj (fun (one:Int) (y:Nat->Rat) (hy:∀ i,i<n->sumQ (fun j=>sysQ n cash d F (freB F (rch (owes d) n) n) one i j*y j) n=sysQ n cash d F (freB F (rch (owes d) n) n) one i n)=>fre_small hRG hn8 hd hy);clear hE hRG;have hmk:=mkBn n (by omega);clear hdm hcs hfs hd hR hT hC;go_enter Tryz.func55,Tryz.ntmps55;go_wp2_with (first | (go_at_call 88;(with_reducible refine (reach_any _ n d _ HDM.out hn0 hn8).mono ?_);rintro e w2 ⟨v2,rfl,⟨Bq,t,tk,rb,rcs,rfl,hbm⟩,hb2⟩;have BM:=jj hbm;have KW:=jj hb2;clear hbm hb2));obtain⟨R,hRe⟩:∃ R,R=rch (owes d) n:=⟨_,rfl⟩;rw [<-hRe] at BM HKR HSM HE;clear hRe;have RI0:=jj ((World.rowIs_made w2 (.bool false) n 4).congr (g:=bF (fun j=>decide (j<0) && freB F R n j)) (fun j hj=>by simp [bF]));have V0:=jj (boxes1 w2 (.cells (madeCells #[.bool false] n) 4));go_loopw [13,14,15,16] (fun v13 v14 v15 v16 wr=>∃ i:Nat,i<=n/\v13 = .int .i64 (i:Nat)/\Hid (wr.rowIs w2.heap.size 4 n (bF (fun j=>decide (j<i) && freB F R n j)))/\Hid (Below w2.heap.size w2 wr)) (fun v13 _ _ _ _=>n - (intOf v13).toNat)
 case atStart=>exact⟨0,by omega,rfl,RI0,V0⟩
 case round=>
  clear RI0 V0;obtain⟨i,hi,rfl,RI,VL⟩:=hrel;obtain⟨wq,rfl⟩:∃ wq:World,wq=wr:=⟨_,rfl⟩;by_cases h:i<n
  ·have e1:decide ((i:Int)<(n:Int))=true:=by simpa using h
   have e1n:decide (i<n)=true:=by simpa using h
   have KWq:=jj (jb KW.out VL.out);have BMq:=jj (BM.out.below VL.out jl);have ixi:=fun W=>ixBB t n tk i h W
   have ixii:=fun W=>ixB (rb i) n (rcs i) i h W
   have ixf:=fun W=>ixF HFS.out i fc h W
   have yf:=(HFS.out.mono KWq.out jl).cell i h;simp only [bF] at yf;have y0:=BMq.out.hdr i h;have z0:=BMq.out.cell i i h h
   go_upto_region 6 with fail
   go_cut [14,15] (fun v14 v15 wx=>v14 = .bool (clsB F R i 0)/\v15 = .bool (fstB R i 0)/\Hid (Below wq.heap.size wq wx))
   case first=>
    have V1:=jj (jr wq);rcases hFi:F i with _ | _
    ·rw [hFi] at yf;go_wp2_with fail;go_meet
     case rel=>exact⟨by simp [clsB,hFi],rfl,V1⟩
    ·rw [hFi] at yf;go_wp2_with fail;go_meet
     case rel=>exact⟨by simp [clsB,hFi],rfl,V1⟩
   case rest=>
    obtain⟨rfl,rfl,V1⟩:=hcut;clear yf y0 z0 ixii;go_wp2_with fail;go_loopw [14,15,16] (fun v14 v15 v16 wr=>∃ j:Nat,j<=n/\v16 = .int .i64 (j:Nat)/\v14 = .bool (clsB F R i j)/\v15 = .bool (fstB R i j)/\Hid (Below wq.heap.size wq wr)) (fun _ _ v16 _=>n - (intOf v16).toNat)
    case atStart=>exact⟨0,by omega,rfl,rfl,rfl,V1⟩
    case round=>
     clear V1;obtain⟨j,hj,rfl,rfl,rfl,V1⟩:=hrel;by_cases h2:j<n
     ·have e2:decide ((j:Int)<(n:Int))=true:=by simpa using h2
      have e2n:decide (j<n)=true:=by simpa using h2
      have KWr:=jj (jb KWq.out V1.out);have BMr:=jj (BMq.out.below V1.out jl);have ixj:=fun W=>ixBB t n tk j h2 W
      have ixij:=fun W=>ixB (rb i) n (rcs i) j h2 W
      have ixji:=fun W=>ixB (rb j) n (rcs j) i h W
      have ixfj:=fun W=>ixF HFS.out j fc h2 W
      have yf:=(HFS.out.mono KWr.out jl).cell j h2;simp only [bF] at yf;have y0:=BMr.out.hdr i h;have y1:=BMr.out.hdr j h2;have z0:=BMr.out.cell i j h h2;have z1:=BMr.out.cell j i h2 h;rcases hR1:R i j with _ | _
      ·rw [hR1] at z0;go_wp2;go_roundw
       case rel=>exact⟨j+1,by omega,by go_num,by simp [clsB,hR1],by simp [fstB,hR1],V1⟩
       case measure=>simp [intOf];omega
      ·rw [hR1] at z0;obtain⟨ge,hge⟩:∃ b,b=decide ((i:Int)<=(j:Int)):=⟨_,rfl⟩;have hge2:ge=decide (i<=j):=by rw [hge];simp
       have HGE:=jj hge2;rcases hcl:clsB F R i j with _ | _ <;> rcases hfs:fstB R i j with _ | _ <;> rcases hFj:F j with _ | _ <;> rw [hFj] at yf
       all_goals
        go_wp2;go_roundw
        case rel=>exact⟨j+1,by omega,by go_num,by simp [clsB,hR1,hcl,hFj],by simp [fstB,hR1,hfs],V1⟩
        case measure=>simp [intOf];omega
     ·obtain rfl:n=j:=by omega
      have e2:decide ((n:Int)<(n:Int))=false:=by simp
      have RI2:=jj (rowIs_below RI.out V1.out RI.out.lt);have ixs:=fun W=>ixB w2.heap.size n n i h W
      have y2:=RI2.out.cell h;have y3:=RI2.out.frozen i;have VV:=jj (jb VL.out V1.out);rcases hcl:clsB F R i n with _ | _
      all_goals
       go_wp2;go_roundw
       case rel=>exact⟨i+1,by omega,by go_num,jj ((RI2.out.set i _).congr (fun l hl=>by
        by_cases e:l=i
        ·subst e;simp [bF,freB,hcl]
        ·have:decide (l<i+1)=decide (l<i):=by simp;omega
         simp [bF,e,this])),jj (VV.out.setCell jl _)⟩
       case measure=>simp [intOf];omega
  ·obtain rfl:n=i:=by omega
   have e1:decide ((n:Int)<(n:Int))=false:=by simp
   have KW2:=jj (jb KW.out VL.out)
   have BF:Hid (Bsl wq (.slice (some ⟨w2.heap.size,0,none⟩) n n) n (freB F R n)):=jj ⟨_,w2.heap.size,0,n,rfl,⟨Nat.le_refl n,fun _=>rfl,fun _=>RI.out.lt,fun j hj=>by
    rw [Nat.zero_add,RI.out.cell hj];simp [bF,hj],fun e=>by cases e⟩⟩
   have RI3:=jj (RI.out.congr (g:=bF (freB F R n)) (fun j hj=>by simp [bF,hj]));clear RI BM
   go_upto_block 4 with (first | (go_at_call 89;(with_reducible refine (rsolve_any _ _ _ _ (-1) n cash d F (freB F R n) _ (HCM.out.mono KW2.out jl) (HDM.out.mono KW2.out jl) (HFM.out.mono KW2.out jl) BF.out hn0 hn8 HC0.out HD0.out HR0.out HT0.out (by omega)).mono ?_);rintro e w3 ⟨h3 | ⟨-,y,hy,i,hi,hyi⟩,hb3⟩;rotate_left;exact absurd (HKR.out _ y hy i hi) hyi;obtain⟨v3,x0,xs,rfl,hq3,hu3⟩:=h3;have HX0:=jj ((hu3 x0).2 (fun _ _=>rfl));have HU:=jj hu3;have HB3:=jj hb3;have HQ3:=jj hq3;clear hu3 hb3 hq3))
   obtain⟨g,gc,rfl,hrow,hgB,hgc⟩:=HQ3.out.rowV hn0 (fun j hj=>maxD_qn (HSM.out _ x0 HX0.out j hj));have RB0:=jj hrow;have HEB0:Hid (E->∀ j,j<n->x0 j=x j):=jj (fun e j hj=>((HU.out x).1 (HE.out e).2.1 j hj).symm);have KB0:=jj HB3.out;clear hrow HQ3 HB3 HX0 HU BF
   go_cut [19,20,21,22,23,24,25,26,27] (fun v19 v20 v21 v22 v23 v24 v25 v26 v27 wx=>∃ b,Hid (RowV wx g n (fun _=>True) b (fun _=>bB n))/\Hid (E->∀ j,j<n->b j=x j)/\Hid (Below wq.heap.size wq wx))
   case first=>
    go_wp2_with fail;go_loopw [19,20,21,22,23,24,25,26,27] (fun v19 v20 v21 v22 v23 v24 v25 v26 v27 wr=>∃ i:Nat,i<=n/\v19 = .int .i64 (i:Nat)/\∃ b,Hid (RowV wr g n (fun _=>True) b (fun _=>bB i))/\Hid (E->∀ j,j<n->b j=x j)/\Hid (Below wq.heap.size wq wr)) (fun v19 _ _ _ _ _ _ _ _ _=>n - (intOf v19).toNat)
    case atStart=>exact⟨0,by omega,rfl,x0,RB0,HEB0,KB0⟩
    case round=>
     clear RB0 HEB0 KB0;obtain⟨i,hi,rfl,b,RB,HEB,KB⟩:=hrel;obtain⟨w4,rfl⟩:∃ w4:World,w4=wr:=⟨_,rfl⟩;by_cases h:i<n
     ·have e1:decide ((i:Int)<(n:Int))=true:=by simpa using h
      have e1n:decide (i<n)=true:=by simpa using h
      have RI5:=jj (rowIs_below RI3.out KB.out RI3.out.lt);have ixs:=fun W=>ixB w2.heap.size n n i h W
      have y2:=RI5.out.cell h;simp only [bF] at y2;have hup:bB i<=bB (i+1):=by show bB i<=16*bB i+9;omega
      rcases hfi:freB F R n i with _ | _
      ·rw [hfi] at y2;go_wp2;go_roundw
       case rel=>exact⟨i+1,by omega,by go_num,b,jj (RB.out.congr (fun j hj _=>⟨trivial,rfl,hup⟩)),HEB,KB⟩
       case measure=>simp [intOf];omega
      ·rw [hfi] at y2;rcases ls with _ | _
       rotate_left
       ·go_wp2;go_roundw
        case rel=>exact⟨i+1,by omega,by go_num,b,jj (RB.out.congr (fun j hj _=>⟨trivial,rfl,hup⟩)),HEB,KB⟩
        case measure=>simp [intOf];omega
       ·have HNE:Hid (¬ E):=jj (fun e=>by
         rcases (HE.out e).1 with q | q
         ·cases q
         ·rw [q i h] at hfi;cases hfi)
        obtain⟨k,hk⟩:∃ k,k=bB i:=⟨_,rfl⟩;have hk1:1000<=k:=by rw [hk];exact bB_ge i
        have hk2:k<=100000000:=by rw [hk];exact bB_le (by omega)
        have hk3:bB (i+1)=16*k+9:=by rw [hk];rfl
        rw [<-hk] at RB hup;have HK:=jj hk;have HK3:=jj hk3;clear hk hk3;have KW4:=jj (jb KW2.out KB.out);have hgl:=RB.out.lt
        have BF4:Hid (Bsl w4 (.slice (some ⟨w2.heap.size,0,none⟩) n n) n (freB F R n)):=jj ⟨_,w2.heap.size,0,n,rfl,⟨Nat.le_refl n,fun _=>rfl,fun _=>RI5.out.lt,fun j hj=>by
         rw [Nat.zero_add,RI5.out.cell hj],fun e=>by cases e⟩⟩
        go_wp2_with (first | (go_at_call 89;(with_reducible refine (rsolve_any _ _ _ _ ((i:Nat):Int) n cash d F (freB F R n) _ (HCM.out.mono KW4.out jl) (HDM.out.mono KW4.out jl) (HFM.out.mono KW4.out jl) BF4.out hn0 hn8 HC0.out HD0.out HR0.out HT0.out (by omega)).mono ?_);rintro e w5 ⟨h5 | ⟨-,y,hy,l,hl,hyl⟩,hb5⟩;rotate_left;exact absurd (HKR.out _ y hy l hl) hyl;obtain⟨v5,y,ys,rfl,hq5,hu5⟩:=h5;have HX5:=jj ((hu5 y).2 (fun _ _=>rfl));have HQ5:=jj hq5;have RB:=jj (RB.out.below hb5 jl);have KB:=jj (jb KB.out hb5);clear hu5 hb5 hq5 BF4));obtain⟨g5,gc5,rfl,hrow,hg5,hgc5⟩:=HQ5.out.rowV hn0 (fun j hj=>maxD_qn (HSM.out _ y HX5.out j hj));have R5:=jj hrow;clear hrow HQ5 HX5;have hg5l:=R5.out.lt;have hgl5:=RB.out.lt;have OM0:=jj (own4_new w5 w5.heap.size rfl (.bool false) (.slice none 0 0) (.bool false) (.slice none 0 0) 40);have K50:=jj (boxes1 w5 (.cells #[.bool false,.slice none 0 0,.bool false,.slice none 0 0] 40));obtain⟨m,hm5⟩:∃ m,m=w5.heap.size:=⟨_,rfl⟩;have HM5:=jj hm5;clear y2 ixs;go_wp2_with fail;rw [<-hm5] at OM0 ⊢;clear hm5;go_loopw [23,24,25,26] (fun v23 v24 v25 v26 wr=>∃ (j:Nat) (s:Bool),j<=n/\v24 = .int .i64 (j:Nat)/\v23 = .bool s/\∃ sm am nm cm tm bm lm km,Hid (Own4 wr m (.bool sm) (.slice am nm cm) (.bool tm) (.slice bm lm km))/\Hid (s=true->∃ t,QV wr (.agg #[.bool sm,.slice am nm cm,.bool tm,.slice bm lm km]) t (4*k+2))/\Hid (Below w5.heap.size w5 wr)) (fun _ v24 _ _ _=>n - (intOf v24).toNat)
        case atStart=>exact⟨0,false,by omega,rfl,rfl,_,_,_,_,_,_,_,_,OM0,jj (fun e=>Bool.noConfusion e),K50⟩
        case round=>
         clear OM0 K50;obtain⟨j,s,hj,rfl,rfl,sm,am,nm,cm,tm,bm,lm,km,OM,HT5,K5⟩:=hrel;obtain⟨wj,rfl⟩:∃ wj:World,wj=wr:=⟨_,rfl⟩;have RBj:=jj (RB.out.below K5.out jl);have R5j:=jj (R5.out.below K5.out jl);by_cases h4:j<n
         ·have e4:decide ((j:Int)<(n:Int))=true:=by simpa using h4
          have e4n:decide (j<n)=true:=by simpa using h4
          obtain⟨sa1,aa1,na1,ca1,ta1,ba1,la1,ka1,hr1,hq1⟩:=R5j.out.cell j h4;obtain⟨sb2,ab2,nb2,cb2,tb2,bb2,lb2,kb2,hr2,hq2⟩:=RBj.out.cell j h4;have HR1:=jj hr1;have HR2:=jj hr2;have HQ1:=jj (hq1 trivial);have HQ2:=jj (hq2 trivial);have ix5:=fun W=>ixV g5 n gc5 j h4 W
          have ixg:=fun W=>ixV g n gc j h4 W
          clear hr1 hr2 hq1 hq2
          go_upto_region 29 with fail
          go_cut [25] (fun v25 wx=>∃ xs_ sq aq nq cq tq bq lq kq,v25 = .pointer (some ⟨xs_,0,none⟩)/\Hid (wj.heap.size<=xs_)/\Hid (Own4 wx xs_ (.bool sq) (.slice aq nq cq) (.bool tq) (.slice bq lq kq))/\Hid (QV wx (.agg #[.bool sq,.slice aq nq cq,.bool tq,.slice bq lq kq]) (y j - b j) (2*k+1))/\Hid (Below wj.heap.size wj wx))
          case first=>
           have keepR:Hid (∀ w',Below wj.heap.size wj w'->w'.cell? ⟨g5,j*4,none⟩=some (.bool sa1)/\w'.cell? ⟨g5,j*4+1,none⟩=some (.slice aa1 na1 ca1)/\w'.cell? ⟨g5,j*4+2,none⟩=some (.bool ta1)/\w'.cell? ⟨g5,j*4+3,none⟩=some (.slice ba1 la1 ka1)/\w'.cell? ⟨g,j*4,none⟩=some (.bool sb2)/\w'.cell? ⟨g,j*4+1,none⟩=some (.slice ab2 nb2 cb2)/\w'.cell? ⟨g,j*4+2,none⟩=some (.bool tb2)/\w'.cell? ⟨g,j*4+3,none⟩=some (.slice bb2 lb2 kb2)):=
            jj (fun w' hb=>⟨bel1 hb HR1.out.c0 HR1.out.lt,bel1 hb HR1.out.c1 HR1.out.lt,bel1 hb HR1.out.c2 HR1.out.lt,bel1 hb HR1.out.c3 HR1.out.lt,bel1 hb HR2.out.c0 HR2.out.lt,bel1 hb HR2.out.c1 HR2.out.lt,bel1 hb HR2.out.c2 HR2.out.lt,bel1 hb HR2.out.c3 HR2.out.lt⟩)
           have VL:=jj (jr wj).drew;have HST:StaysB (fun w'=>w'.cell? ⟨g5,j*4,none⟩=some (.bool sa1)/\w'.cell? ⟨g5,j*4+1,none⟩=some (.slice aa1 na1 ca1)/\w'.cell? ⟨g5,j*4+2,none⟩=some (.bool ta1)/\w'.cell? ⟨g5,j*4+3,none⟩=some (.slice ba1 la1 ka1)/\w'.cell? ⟨g,j*4,none⟩=some (.bool sb2)/\w'.cell? ⟨g,j*4+1,none⟩=some (.slice ab2 nb2 cb2)/\w'.cell? ⟨g,j*4+2,none⟩=some (.bool tb2)/\w'.cell? ⟨g,j*4+3,none⟩=some (.slice bb2 lb2 kb2)):=fun w1 w2 h hb=>⟨cell_stays h.1 hb,cell_stays h.2.1 hb,cell_stays h.2.2.1 hb,cell_stays h.2.2.2.1 hb,cell_stays h.2.2.2.2.1 hb,cell_stays h.2.2.2.2.2.1 hb,cell_stays h.2.2.2.2.2.2.1 hb,cell_stays h.2.2.2.2.2.2.2 hb⟩
           refine wp_region_box HST (d:=25) (zs:=#[.bool false,.slice none 0 0,.bool false,.slice none 0 0]) (t:=40) (by as_aux_lemma=>kernel_rfl) (by as_aux_lemma=>kernel_rfl) rfl (fun a w=>by kernel_rfl) (fun _ _ _ _ h=>h) (keepR.out _ VL.out) (fun hHeld=>?_);simp only [List.pop_toArray,List.dropLast_cons_cons,List.dropLast_singleton];refine wte_begin [0,1,2,3,4,5,6,7] ?_
           iterate 8 (refine wte (v:=?_) HST rfl (by as_aux_lemma=>kernel_rfl) (fun _ _ _ h=>h) (by kernel_rfl) ?_ hHeld ?_;rotate_left;(focus intro w0 hSw;(try dsimp only at hSw);go_simp;all_goals (with_reducible rfl));simp only [Act.put,js,jz,jc])
           refine wte_end ?_;refine wpAnyE_ready (rs:=[8]) (by as_aux_lemma=>kernel_rfl) (by simp) (fun we hext=>?_);have VL:=jj (bl_trans VL.out hext);have hHeld:=HST _ _ hHeld hext;refine AllReadyE.cons rfl (fun Kn hKn=>?_) AllReadyE.nil;go_simp
           (go_at_call 28;(with_reducible refine (qv_sub _ _ (y j) (b j) k _ ((HQ1.out.mono VL.out jl).le (by omega)) (HQ2.out.mono VL.out jl) (by omega)).mono ?_);rintro e w7 ⟨r7,rfl,hr7,hbc⟩;obtain⟨s7,a7,n7,c7,t7,b7,l7,k7,rfl,QK7⟩:=hr7.shape;clear hr7)
           have VL:=jj (bl_trans VL.out hbc);go_wp2_with fail;refine hKn.out _ _ ?_ ?_ (fun hHeld=>?_)
           ·(try dsimp only);exact keepR.out _ VL.out
           ·exact hbc
           clear hKn Kn hext hbc
           (try simp only [Act.put,js,jz,jc])
           refine wpAnyE_done (by as_aux_lemma=>kernel_rfl) (fun we hext=>?_) _;intro xq wx hbx hx0 hxz;have VL:=jj (bl_trans (bl_trans VL.out hext) hbx);have QK7:=jj ((QK7.out.mono hext jl).mono hbx jl);have OX:=jj (own4_block hxz);obtain⟨x0,x1,x2,x3,xf,xl⟩:=OX.out;clear hext hbx hxz ix5 ixg;simp only [Act.put,js,jz,jc];refine lastQ_step rfl (fun Kn hKn=>?_);go_simp;refine hKn.out _ _ ?_;clear hKn Kn
           (try simp only [Act.put,js,jz,jc])
           have V8:=jj (below_set4q VL.out (b:=xq) hx0 (.bool s7) (.slice a7 n7 c7) (.bool t7) (.slice b7 l7 k7));clear x0 x1 x2 x3 xf xl hHeld HST;go_wp2_with fail;go_meet
           case rel=>exact⟨xq,s7,a7,n7,c7,t7,b7,l7,k7,rfl,jj hx0,jj (OX.out.anew _ _ _ _),jj (QK7.out.at4 OX.out _ _ _ _),V8⟩
          case rest=>
           clear ix5 HR1 HQ1;obtain⟨xs_,sq,aq,nq,cq,tq,bq,lq,kq,rfl,hxs,OS,HQS,V1⟩:=hcut;obtain⟨wy,rfl⟩:∃ wy:World,wy=wc:=⟨_,rfl⟩;have x0:=OS.out.c0;have x1:=OS.out.c1;by_cases hp:0<y j - b j
           ·have d1:=cmp_pos hp;have HNZ:Hid (y j - b j≠0):=jj (fun e=>by rw [e] at hp;exact absurd hp Rat.lt_irrefl);clear hp
            go_upto_region 31 with (first | (go_at_call 29;(with_reducible refine (qv_sign (y j - b j) (2*k+1) _ HQS.out).mono ?_);rintro e w6 ⟨rfl,hb6⟩;have V1:=jj (jb V1.out hb6);have OS:=jj (OS.out.below hb6 OS.out.lt);have HQS:=jj (HQS.out.mono hb6 jl);clear hb6 x0 x1))
            have VY:=V1;have KWy:=jj (KW2.out.trans ((KB.out.trans ((jb K5.out V1.out).mono KB.out.size)).mono KW2.out.size));have hdr:=jj ((HM.out.mono KWy.out jl).top.cell j h4);have ixd:=fun W=>ixM HM.out.top j dc h4 W
            have HT:Hid (-9223372036854775808<=sumF (d j) n/\sumF (d j) n<9223372036854775808):=jj (by have:=HT0.out j h4;have:=sumF_nn (HD0.out j) n;omega);have HDT:Hid (∀ l,l<n->-(1099511627776:Int)<=d j l/\d j l<=1099511627776):=jj (fun l hl=>by have:=HR0.out j l h4 hl;have:=HD0.out j l;omega);have HR6:=jj (HR2.out.below V1.out HR2.out.lt)
            go_cut [26] (fun v26 wx=>∃ xt st at0 nt ct tt bt lt0 kt,v26 = .pointer (some ⟨xt,0,none⟩)/\Hid (w6.heap.size<=xt)/\Hid (Own4 wx xt (.bool st) (.slice at0 nt ct) (.bool tt) (.slice bt lt0 kt))/\Hid (QV wx (.agg #[.bool st,.slice at0 nt ct,.bool tt,.slice bt lt0 kt]) ((((sumF (d j) n:Int):Rat) - b j) / (y j - b j)) (2*(2*k+1)))/\Hid (Below w6.heap.size w6 wx))
            case first=>
             have keepR:Hid (∀ w',Below w6.heap.size w6 w'->w'.cell? ⟨db,do_+j,none⟩=some (.slice (ra j) n (rc j))/\w'.cell? ⟨g,j*4,none⟩=some (.bool sb2)/\w'.cell? ⟨g,j*4+1,none⟩=some (.slice ab2 nb2 cb2)/\w'.cell? ⟨g,j*4+2,none⟩=some (.bool tb2)/\w'.cell? ⟨g,j*4+3,none⟩=some (.slice bb2 lb2 kb2)/\w'.cell? ⟨xs_,0,none⟩=some (.bool sq)/\w'.cell? ⟨xs_,1,none⟩=some (.slice aq nq cq)/\w'.cell? ⟨xs_,2,none⟩=some (.bool tq)/\w'.cell? ⟨xs_,3,none⟩=some (.slice bq lq kq)):=
              jj (fun w' hb=>⟨bel1 hb hdr.out (jm (HM.out.top.lt (by omega)) KWy.out.size),bel1 hb HR6.out.c0 HR6.out.lt,bel1 hb HR6.out.c1 HR6.out.lt,bel1 hb HR6.out.c2 HR6.out.lt,bel1 hb HR6.out.c3 HR6.out.lt,bel1 hb OS.out.c0 OS.out.lt,bel1 hb OS.out.c1 OS.out.lt,bel1 hb OS.out.c2 OS.out.lt,bel1 hb OS.out.c3 OS.out.lt⟩)
             have VL:=jj (jr w6).drew;have HST:StaysB (fun w'=>w'.cell? ⟨db,do_+j,none⟩=some (.slice (ra j) n (rc j))/\w'.cell? ⟨g,j*4,none⟩=some (.bool sb2)/\w'.cell? ⟨g,j*4+1,none⟩=some (.slice ab2 nb2 cb2)/\w'.cell? ⟨g,j*4+2,none⟩=some (.bool tb2)/\w'.cell? ⟨g,j*4+3,none⟩=some (.slice bb2 lb2 kb2)/\w'.cell? ⟨xs_,0,none⟩=some (.bool sq)/\w'.cell? ⟨xs_,1,none⟩=some (.slice aq nq cq)/\w'.cell? ⟨xs_,2,none⟩=some (.bool tq)/\w'.cell? ⟨xs_,3,none⟩=some (.slice bq lq kq)):=fun w1 w2 h hb=>⟨cell_stays h.1 hb,cell_stays h.2.1 hb,cell_stays h.2.2.1 hb,cell_stays h.2.2.2.1 hb,cell_stays h.2.2.2.2.1 hb,cell_stays h.2.2.2.2.2.1 hb,cell_stays h.2.2.2.2.2.2.1 hb,cell_stays h.2.2.2.2.2.2.2.1 hb,cell_stays h.2.2.2.2.2.2.2.2 hb⟩
             refine wp_region_box HST (d:=26) (zs:=#[.bool false,.slice none 0 0,.bool false,.slice none 0 0]) (t:=40) (by as_aux_lemma=>kernel_rfl) (by as_aux_lemma=>kernel_rfl) rfl (fun a w=>by kernel_rfl) (fun _ _ _ _ h=>h) (keepR.out _ VL.out) (fun hHeld=>?_);simp only [List.pop_toArray,List.dropLast_cons_cons,List.dropLast_singleton];refine wte_begin [0,1,2,3,6,7,8,9,11] ?_
             iterate 9 (refine wte (v:=?_) HST rfl (by as_aux_lemma=>kernel_rfl) (fun _ _ _ h=>h) (by kernel_rfl) ?_ hHeld ?_;rotate_left;(focus intro w0 hSw;(try dsimp only at hSw);go_simp;all_goals (with_reducible rfl));simp only [Act.put,js,jz,jc])
             refine wte_end ?_;refine wpAnyE_ready (rs:=[4]) (by as_aux_lemma=>kernel_rfl) (by simp) (fun we hext=>?_);have VL:=jj (bl_trans VL.out hext);have hHeld:=HST _ _ hHeld hext;refine AllReadyE.cons rfl (fun Kn hKn=>?_) AllReadyE.nil;go_simp
             (go_at_call 17;(with_reducible refine (total_any _ n (d j) _ ((HM.out.row j h4).ints.mono (jb KWy.out VL.out) jl) (by omega) HDT.out).mono ?_);rintro e w8 ⟨rfl,hd8⟩;have hbc:=hd8.below we.heap.size)
             have VL:=jj (bl_trans VL.out hbc);go_wp2_with fail;refine hKn.out _ _ ?_ ?_ (fun hHeld=>?_)
             ·(try dsimp only);exact keepR.out _ VL.out
             ·exact hbc
             clear hKn Kn hext hbc
             (try simp only [Act.put,js,jz,jc])
             refine wpAnyE_ready (rs:=[5]) (by as_aux_lemma=>kernel_rfl) (by simp) (fun we hext=>?_);have VL:=jj (bl_trans VL.out hext);have hHeld:=HST _ _ hHeld hext;refine AllReadyE.cons rfl (fun Kn hKn=>?_) AllReadyE.nil;go_simp
             (go_at_call 16;(with_reducible refine (qv_whole (sumF (d j) n) _ HT.out.1 HT.out.2).mono ?_);rintro e w9 ⟨r9,rfl,hr9,hbc⟩;obtain⟨s9,a9,n9,c9,t9,b9,l9,k9,rfl,QK9⟩:=hr9.shape;clear hr9)
             have VL:=jj (bl_trans VL.out hbc);go_wp2_with fail;refine hKn.out _ _ ?_ ?_ (fun hHeld=>?_)
             ·(try dsimp only);exact keepR.out _ VL.out
             ·exact hbc
             clear hKn Kn hext hbc
             (try simp only [Act.put,js,jz,jc])
             refine wpAnyE_ready (rs:=[10]) (by as_aux_lemma=>kernel_rfl) (by simp) (fun we hext=>?_);have VL:=jj (bl_trans VL.out hext);have hHeld:=HST _ _ hHeld hext;have QK9:=jj (QK9.out.mono hext jl);refine AllReadyE.cons rfl (fun Kn hKn=>?_) AllReadyE.nil;go_simp
             (go_at_call 28;(with_reducible refine (qv_sub _ _ ((sumF (d j) n:Int):Rat) (b j) k _ (QK9.out.le (by omega)) (HQ2.out.mono (bl_trans VY.out VL.out) jl) (by omega)).mono ?_);rintro e w10 ⟨r10,rfl,hr10,hbc⟩;obtain⟨s10,a10,n10,c10,t10,b10,l10,k10,rfl,QK10⟩:=hr10.shape;clear hr10)
             have QK9:=jj (QK9.out.mono hbc jl);have VL:=jj (bl_trans VL.out hbc);go_wp2_with fail;refine hKn.out _ _ ?_ ?_ (fun hHeld=>?_)
             ·(try dsimp only);exact keepR.out _ VL.out
             ·exact hbc
             clear hKn Kn hext hbc
             (try simp only [Act.put,js,jz,jc])
             refine wpAnyE_ready (rs:=[12]) (by as_aux_lemma=>kernel_rfl) (by simp) (fun we hext=>?_);have VL:=jj (bl_trans VL.out hext);have hHeld:=HST _ _ hHeld hext;have QK10:=jj (QK10.out.mono hext jl);refine AllReadyE.cons rfl (fun Kn hKn=>?_) AllReadyE.nil;go_simp
             (go_at_call 90;(with_reducible refine (qv_div _ _ (((sumF (d j) n:Int):Rat) - b j) (y j - b j) (2*k+1) _ QK10.out (HQS.out.mono VL.out jl) HNZ.out (by omega)).mono ?_);rintro e w11 ⟨r11,rfl,hr11,hbc⟩;obtain⟨s11,a11,n11,c11,t11,b11,l11,k11,rfl,QK11⟩:=hr11.shape;clear hr11)
             have QK10:=jj (QK10.out.mono hbc jl);have VL:=jj (bl_trans VL.out hbc);go_wp2_with fail;refine hKn.out _ _ ?_ ?_ (fun hHeld=>?_)
             ·(try dsimp only);exact keepR.out _ VL.out
             ·exact hbc
             clear hKn Kn hext hbc
             (try simp only [Act.put,js,jz,jc])
             refine wpAnyE_done (by as_aux_lemma=>kernel_rfl) (fun we hext=>?_) _;intro xq wx hbx hx0 hxz;have VL:=jj (bl_trans (bl_trans VL.out hext) hbx);have QK11:=jj ((QK11.out.mono hext jl).mono hbx jl);have OX:=jj (own4_block hxz);obtain⟨x0,x1,x2,x3,xf,xl⟩:=OX.out;clear hext hbx hxz ixg ixd;simp only [Act.put,js,jz,jc];refine lastQ_step rfl (fun Kn hKn=>?_);go_simp;refine hKn.out _ _ ?_;clear hKn Kn
             (try simp only [Act.put,js,jz,jc])
             have V8:=jj (below_set4q VL.out (b:=xq) hx0 (.bool s11) (.slice a11 n11 c11) (.bool t11) (.slice b11 l11 k11));clear x0 x1 x2 x3 xf xl hHeld HST;go_wp2_with fail;go_meet
             case rel=>exact⟨xq,s11,a11,n11,c11,t11,b11,l11,k11,rfl,jj hx0,jj (OX.out.anew _ _ _ _),jj (QK11.out.at4 OX.out _ _ _ _),V8⟩
            case rest=>
             clear ixg ixd HR6 HR2 HQ2 hdr OS HQS;obtain⟨xt,st,at0,nt,ct,tt,bt,lt0,kt,rfl,hxt,OT,HQT,V2⟩:=hcut;obtain⟨wz,rfl⟩:∃ wz:World,wz=wc:=⟨_,rfl⟩;have VZ:=jj (jb V1.out V2.out);have OM:=jj (OM.out.below VZ.out OM.out.lt);have K5:=jj (jb K5.out VZ.out);have y0:=OT.out.c0;have y1:=OT.out.c1;have y2:=OT.out.c2;have y3:=OT.out.c3;have z0:=OM.out.c0;have z1:=OM.out.c1;have z2:=OM.out.c2;have z3:=OM.out.c3;have zf:=OM.out.f;have zl:=OM.out.lt;rcases s with _ | _
             ·go_wp2;go_roundw
              case rel=>exact⟨j+1,true,by omega,by go_num,rfl,_,_,_,_,_,_,_,_,jj (OM.out.anew _ _ _ _),jj (fun _=>⟨_,(HQT.out.at4 OM.out _ _ _ _).le (by omega)⟩),jj (below_set4q K5.out (by have:=HM5.out;omega) _ _ _ _)⟩
              case measure=>simp [intOf];omega
             ·obtain⟨t,ht⟩:=HT5.out rfl;have HQM:=jj (ht.mono VZ.out jl);clear ht HT5;obtain⟨nw,hnw⟩:∃ nw,nw=((((sumF (d j) n:Int):Rat) - b j) / (y j - b j)):=⟨_,rfl⟩;rw [<-hnw] at HQT;clear hnw;by_cases hlt:nw<t
              ·have d5:=cmp_yes hlt;clear hlt;go_wp2_with (first | (go_at_call 14;(with_reducible refine (qv_cmp _ _ nw t (4*k+2) _ (HQT.out.le (by omega)) HQM.out (by omega)).mono ?_);rintro e w9 ⟨rfl,hb9⟩;have OT:=jj (OT.out.below hb9 OT.out.lt);have HQT:=jj (HQT.out.mono hb9 jl);have OM:=jj (OM.out.below hb9 OM.out.lt);have K5:=jj (jb K5.out hb9);clear hb9 y0 y1 y2 y3 z0 z1 z2 z3 zf zl;have y0:=OT.out.c0;have y1:=OT.out.c1;have y2:=OT.out.c2;have y3:=OT.out.c3;have z0:=OM.out.c0;have z1:=OM.out.c1;have z2:=OM.out.c2;have z3:=OM.out.c3;have zf:=OM.out.f;have zl:=OM.out.lt));go_roundw
               case rel=>exact⟨j+1,true,by omega,by go_num,rfl,_,_,_,_,_,_,_,_,jj (OM.out.anew _ _ _ _),jj (fun _=>⟨_,(HQT.out.at4 OM.out _ _ _ _).le (by omega)⟩),jj (below_set4q K5.out (by have:=HM5.out;omega) _ _ _ _)⟩
               case measure=>simp [intOf];omega
              ·have d5:=cmp_no hlt;clear hlt;go_wp2_with (first | (go_at_call 14;(with_reducible refine (qv_cmp _ _ nw t (4*k+2) _ (HQT.out.le (by omega)) HQM.out (by omega)).mono ?_);rintro e w9 ⟨rfl,hb9⟩;have HQM:=jj (HQM.out.mono hb9 jl);have OM:=jj (OM.out.below hb9 OM.out.lt);have K5:=jj (jb K5.out hb9);clear hb9 y0 y1 y2 y3 z0 z1 z2 z3 zf zl));go_roundw
               case rel=>exact⟨j+1,true,by omega,by go_num,rfl,_,_,_,_,_,_,_,_,OM,jj (fun _=>⟨_,HQM.out⟩),K5⟩
               case measure=>simp [intOf];omega
           ·have d1:=cmp_neg hp;have OMy:=jj (OM.out.below V1.out OM.out.lt);have HTy:Hid (s=true->∃ t,QV wy (.agg #[.bool sm,.slice am nm cm,.bool tm,.slice bm lm km]) t (4*k+2)):=jj (fun e=>by obtain⟨t,ht⟩:=HT5.out e;exact⟨t,ht.mono V1.out jl⟩);have K5y:=jj (jb K5.out V1.out);clear hp;go_wp2_with (first | (go_at_call 29;(with_reducible refine (qv_sign (y j - b j) (2*k+1) _ HQS.out).mono ?_);rintro e w6 ⟨rfl,hb6⟩;have OMy:=jj (OMy.out.below hb6 OMy.out.lt);have HTy:=jj (fun (e:s=true)=>(HTy.out e).imp (fun t ht=>ht.mono hb6 jl));have K5y:=jj (jb K5y.out hb6);clear hb6 x0 x1));go_roundw
            case rel=>exact⟨j+1,s,by omega,by go_num,rfl,_,_,_,_,_,_,_,_,OMy,HTy,K5y⟩
            case measure=>simp [intOf];omega
         ·obtain rfl:n=j:=by omega
          have e4:decide ((n:Int)<(n:Int))=false:=by simp
          have KBj:=jj (jb KB.out K5.out);have RB0:=jj (RBj.out.congr (P':=fun _=>True) (q':=b) (K':=fun l=>if l<0 then 16*k+9 else k) (fun l hl _=>⟨trivial,rfl,by simp⟩));have HNG:Hid (g≠g5/\g≠m/\wq.heap.size<=g):=jj ⟨by omega,by have:=HM5.out;omega,hgB⟩;clear RB RBj R5 KB K5 KW4;go_wp2_with fail;go_loopw [27] (fun v27 wr=>∃ j:Nat,j<=n/\v27 = .int .i64 (j:Nat)/\∃ bz,Hid (RowV wr g n (fun _=>True) bz (fun l=>if l<j then 16*k+9 else k))/\Hid (Own4 wr m (.bool sm) (.slice am nm cm) (.bool tm) (.slice bm lm km))/\Hid (s=true->∃ t,QV wr (.agg #[.bool sm,.slice am nm cm,.bool tm,.slice bm lm km]) t (4*k+2))/\Hid (RowV wr g5 n (fun _=>True) y (fun _=>1000))/\Hid (Below wq.heap.size wq wr)) (fun v27 _=>n - (intOf v27).toNat)
          case atStart=>exact⟨0,by omega,rfl,b,RB0,OM,HT5,R5j,KBj⟩
          case round=>
           clear RB0 OM HT5 R5j KBj;obtain⟨j,hj,rfl,bz,RB,OM,HT5,R5,KB⟩:=hrel;obtain⟨wl,rfl⟩:∃ wl:World,wl=wr:=⟨_,rfl⟩;by_cases h5:j<n
           ·have e5:decide ((j:Int)<(n:Int))=true:=by simpa using h5
            have e5n:decide (j<n)=true:=by simpa using h5
            rcases s with _ | _
            ·go_wp2_with fail;go_roundw
             case rel=>exact⟨i+1,by omega,by go_num,bz,jj (RB.out.congr (fun l hl _=>⟨trivial,rfl,by rw [HK3.out];split <;> omega⟩)),jj (fun e=>absurd e HNE.out),KB⟩
             case measure=>simp [intOf];omega
            ·obtain⟨t,ht⟩:=HT5.out rfl;have HQM:=jj ht;clear ht HT5;obtain⟨sa1,aa1,na1,ca1,ta1,ba1,la1,ka1,hr1,hq1⟩:=R5.out.cell j h5;obtain⟨sb2,ab2,nb2,cb2,tb2,bb2,lb2,kb2,hr2,hq2⟩:=RB.out.cell j h5;have HR1:=jj hr1;have HR2:=jj hr2;have HQ1:=jj (hq1 trivial);have HQ2:=jj ((hq2 trivial).le (show _<=k by simp));have ix5:=fun W=>ixV g5 n gc5 j h5 W
             have ixg:=fun W=>ixV g n gc j h5 W
             clear hr1 hr2 hq1 hq2
             have keepR:Hid (∀ w',Below wl.heap.size wl w'->w'.cell? ⟨g,j*4,none⟩=some (.bool sb2)/\w'.cell? ⟨g,j*4+1,none⟩=some (.slice ab2 nb2 cb2)/\w'.cell? ⟨g,j*4+2,none⟩=some (.bool tb2)/\w'.cell? ⟨g,j*4+3,none⟩=some (.slice bb2 lb2 kb2)/\w'.cell? ⟨m,0,none⟩=some (.bool sm)/\w'.cell? ⟨m,1,none⟩=some (.slice am nm cm)/\w'.cell? ⟨m,2,none⟩=some (.bool tm)/\w'.cell? ⟨m,3,none⟩=some (.slice bm lm km)/\w'.cell? ⟨g5,j*4,none⟩=some (.bool sa1)/\w'.cell? ⟨g5,j*4+1,none⟩=some (.slice aa1 na1 ca1)/\w'.cell? ⟨g5,j*4+2,none⟩=some (.bool ta1)/\w'.cell? ⟨g5,j*4+3,none⟩=some (.slice ba1 la1 ka1)):=
              jj (fun w' hb=>⟨bel1 hb HR2.out.c0 HR2.out.lt,bel1 hb HR2.out.c1 HR2.out.lt,bel1 hb HR2.out.c2 HR2.out.lt,bel1 hb HR2.out.c3 HR2.out.lt,bel1 hb OM.out.c0 OM.out.lt,bel1 hb OM.out.c1 OM.out.lt,bel1 hb OM.out.c2 OM.out.lt,bel1 hb OM.out.c3 OM.out.lt,bel1 hb HR1.out.c0 HR1.out.lt,bel1 hb HR1.out.c1 HR1.out.lt,bel1 hb HR1.out.c2 HR1.out.lt,bel1 hb HR1.out.c3 HR1.out.lt⟩)
             have VL:=jj (jr wl).drew;go_wp2;refine wp_region_last (S:=fun w'=>w'.cell? ⟨g,j*4,none⟩=some (.bool sb2)/\w'.cell? ⟨g,j*4+1,none⟩=some (.slice ab2 nb2 cb2)/\w'.cell? ⟨g,j*4+2,none⟩=some (.bool tb2)/\w'.cell? ⟨g,j*4+3,none⟩=some (.slice bb2 lb2 kb2)/\w'.cell? ⟨m,0,none⟩=some (.bool sm)/\w'.cell? ⟨m,1,none⟩=some (.slice am nm cm)/\w'.cell? ⟨m,2,none⟩=some (.bool tm)/\w'.cell? ⟨m,3,none⟩=some (.slice bm lm km)/\w'.cell? ⟨g5,j*4,none⟩=some (.bool sa1)/\w'.cell? ⟨g5,j*4+1,none⟩=some (.slice aa1 na1 ca1)/\w'.cell? ⟨g5,j*4+2,none⟩=some (.bool ta1)/\w'.cell? ⟨g5,j*4+3,none⟩=some (.slice ba1 la1 ka1)) (by as_aux_lemma=>kernel_rfl) (by as_aux_lemma=>kernel_rfl) (keepR.out _ VL.out) (fun hHeld=>?_);simp only [List.pop_toArray,List.dropLast_cons_cons,List.dropLast_singleton];refine wtk_begin [0,1,2,3,4,5,6,7,8,9,10,11,12,13,14] ?_
             iterate 15 (refine wtk (v:=?_) rfl (by as_aux_lemma=>kernel_rfl) (fun _ _ _ h=>h) (by kernel_rfl) ?_ (by assumption) ?_;rotate_left;(focus intro w0 hSw;(try dsimp only at hSw);go_simp;all_goals (with_reducible rfl));simp only [Act.put,js,jz,jc])
             refine wtk_end ?_;refine wpAnyH_ready (rs:=[15]) (by as_aux_lemma=>kernel_rfl) (by simp) ?_;refine AllReadyH.cons rfl (fun Kn hKn=>?_) AllReadyH.nil;go_simp
             (go_at_call 28;(with_reducible refine (qv_sub _ _ (y j) (bz j) k _ ((HQ1.out.mono VL.out jl).le (by omega)) (HQ2.out.mono VL.out jl) (by omega)).mono ?_);rintro e w7 ⟨r7,rfl,hr7,hb7⟩;obtain⟨s7,a7,n7,c7,t7,b7,l7,k7,rfl,QK7⟩:=hr7.shape;clear hr7;have VL:=jj (jb VL.out hb7))
             go_wp2_with fail;refine hKn.out _ _ (keepR.out _ VL.out) (fun hHeld=>?_);clear hKn Kn
             (try simp only [Act.put,js,jz,jc])
             refine wpAnyH_ready (rs:=[16]) (by as_aux_lemma=>kernel_rfl) (by simp) ?_;refine AllReadyH.cons rfl (fun Kn hKn=>?_) AllReadyH.nil;go_simp
             (go_at_call 48;(with_reducible refine (qv_mul _ _ t (y j - bz j) (4*k+2) _ (HQM.out.mono VL.out jl) (QK7.out.le (by omega)) (by omega)).mono ?_);rintro e w8 ⟨r8,rfl,hr8,hb8⟩;obtain⟨s8,a8,n8,c8,t8,b8,l8,k8,rfl,QK8⟩:=hr8.shape;clear hr8;have VL:=jj (jb VL.out hb8))
             go_wp2_with fail;refine hKn.out _ _ (keepR.out _ VL.out) (fun hHeld=>?_);clear hKn Kn
             (try simp only [Act.put,js,jz,jc])
             refine wpAnyH_ready (rs:=[17]) (by as_aux_lemma=>kernel_rfl) (by simp) ?_;refine AllReadyH.cons rfl (fun Kn hKn=>?_) AllReadyH.nil;go_simp
             (go_at_call 18;(with_reducible refine (qv_add _ _ (bz j) (t*(y j - bz j)) (8*k+4) _ ((HQ2.out.mono VL.out jl).le (by omega)) (QK8.out.le (by omega)) (by omega)).mono ?_);rintro e w9 ⟨r9,rfl,hr9,hb9⟩;obtain⟨s9,a9,n9,c9,t9,b9,l9,k9,rfl,QK9⟩:=hr9.shape;clear hr9;have VL:=jj (jb VL.out hb9))
             go_wp2_with fail;refine hKn.out _ _ (keepR.out _ VL.out) (fun hHeld=>?_);clear hKn Kn
             (try simp only [Act.put,js,jz,jc])
             refine wpAnyH_ready (rs:=[18]) (by as_aux_lemma=>kernel_rfl) (by simp) ?_;refine AllReadyH.cons rfl (fun Kn hKn=>?_) AllReadyH.nil;go_simp
             (go_at_call 50;(with_reducible refine (qv_low _ (bz j+t*(y j - bz j)) (16*k+9) _ (QK9.out.le (by omega)) (by omega)).mono ?_);rintro e w10 ⟨r10,rfl,hr10,hb10⟩;have hr10:=QV.of hr10;obtain⟨x1,y1,z1,u1,x2,y2,z2,u2,rfl,QA⟩:=hr10.shape;clear hr10;have VL:=jj (jb VL.out hb10);have RB6:=jj (RB.out.below VL.out jl);obtain⟨p0,p1,p2,p3,pl⟩:=(bel4 VL.out HR2.out HR2.out.lt);have pf:=RB6.out.f)
             go_wp2_with fail;refine hKn.out _ _ (keepR.out _ VL.out) (fun hHeld=>?_);clear hKn Kn
             (try simp only [Act.put,js,jz,jc])
             refine wtk_begin [19] ?_
             (refine wtk (v:=?_) rfl (by as_aux_lemma=>kernel_rfl) (fun _ _ _ h=>h) (by kernel_rfl) ?_ (by assumption) ?_;rotate_left;(focus intro w0 hSw;(try dsimp only at hSw);go_simp;all_goals (with_reducible rfl));simp only [Act.put,js,jz,jc])
             refine wtk_end ?_;refine wpAnyH_done (by as_aux_lemma=>kernel_rfl) ?_ _;refine lastQ_step rfl (fun Kn hKn=>?_);go_simp;refine hKn.out _ _ ?_;clear hKn Kn
             (try simp only [Act.put,js,jz,jc])
             have HS6:=jj (RB6.out.set h5 rfl QA.out);have Q7:=jj (HS6.out.congr (P':=fun _=>True) (K':=fun l=>if l<j+1 then 16*k+9 else k) (fun l hl _=>⟨.inr trivial,rfl,by unfold updN;(try dsimp only);split <;> split <;> (try split) <;> omega⟩));have O6:=jj ((((OM.out.below VL.out OM.out.lt).setCell g (j*4) (.bool x1) HNG.out.2.1).setCell g (j*4+1) (.slice y1 z1 u1) HNG.out.2.1).setCell g (j*4+2) (.bool x2) HNG.out.2.1 |>.setCell g (j*4+3) (.slice y2 z2 u2) HNG.out.2.1);have HQ6:=jj ((HQM.out.mono VL.out jl).atR (.bool x1) (.slice y1 z1 u1) (.bool x2) (.slice y2 z2 u2) (bel4 VL.out HR2.out HR2.out.lt));have R56:=jj ((R5.out.below VL.out jl).far4 (.bool x1) (.slice y1 z1 u1) (.bool x2) (.slice y2 z2 u2) (bel4 VL.out HR2.out HR2.out.lt) HNG.out.1);have KB6:=jj (below_st4 (jb KB.out VL.out) HNG.out.2.2 (.bool x1) (.slice y1 z1 u1) (.bool x2) (.slice y2 z2 u2) (o:=j*4));clear p0 p1 p2 p3 pf pl;go_wp2;go_roundw
             case rel=>exact⟨j+1,by omega,by go_num,_,Q7,O6,jj (fun _=>⟨t,HQ6.out⟩),R56,KB6⟩
             case measure=>simp [intOf];omega
           ·obtain rfl:n=j:=by omega
            have e5:decide ((n:Int)<(n:Int))=false:=by simp
            go_wp2_with fail;go_roundw
            case rel=>exact⟨i+1,by omega,by go_num,bz,jj (RB.out.congr (fun l hl _=>⟨trivial,rfl,by rw [HK3.out];split <;> omega⟩)),jj (fun e=>absurd e HNE.out),KB⟩
            case measure=>simp [intOf];omega
     ·obtain rfl:n=i:=by omega
      have e1:decide ((n:Int)<(n:Int))=false:=by simp
      go_wp2_with fail;go_meet
      case rel=>exact⟨b,RB,HEB,KB⟩
   case rest=>
    clear RB0 HEB0 KB0;obtain⟨b,RB,HEB,KB⟩:=hcut;obtain⟨w4,rfl⟩:∃ w4:World,w4=wc:=⟨_,rfl⟩;obtain⟨p,hpb⟩:∃ p,p=b:=⟨_,rfl⟩;rw [<-hpb] at RB HEB;obtain⟨w3',hw3⟩:∃ w':World,w'=w4:=⟨_,rfl⟩;have HP:Hid (VSl w4 (.slice (some ⟨g,0,none⟩) n gc) n p 100000000):=jj ((RB.out.congr (P':=fun _=>True) (q':=p) (K':=fun _=>100000000) (fun l hl _=>⟨trivial,rfl,bB_le hn⟩)).vsl hgc);have KW4:=jj (jb KW2.out KB.out);clear hpb hw3 RB RI3 KB;obtain⟨g',gc',hge,hgc',hgl,hgv⟩:=HP.out.val;injection hge with q1 q2 q3;injection q1 with q1;injection q1 with q1 q4 q5;subst q1 q3;have HV:=jj hgv;have HGL:=jj hgl;have V0:=jj (jr w4);clear hgv hgl hgc';go_wp2_with fail;go_loopw [28] (fun v28 wr=>∃ i:Nat,i<=n/\v28 = .int .i64 (i:Nat)/\Hid (Below w4.heap.size w4 wr)) (fun v28 _=>n - (intOf v28).toNat)
    case atStart=>exact⟨0,by omega,rfl,V0⟩
    case round=>
     clear V0;obtain⟨i,hi,rfl,KW3⟩:=hrel;by_cases h:i<n
     ·have e1:decide ((i:Int)<(n:Int))=true:=by simpa using h
      have e1n:decide (i<n)=true:=by simpa using h
      have KW:=jj (jb KW4.out KW3.out);have ixp:=fun W=>ixV g n gc i h W
      have ixd:=fun W=>ixM HM.out.top i dc h W
      have ixf:=fun W=>ixF HFS.out i fc h W
      have ixc:=fun W=>ixI HCS.out i cc h W
      have HXI:Hid (E->¬ BadP n cash d F p i):=jj (fun e hb=>by
       have h1:=(HE.out e).2.2 i h;have h2:=HEB.out e i h;have h3:hasP n (cashQ cash) (shQ n d) x i=hasP n (cashQ cash) (shQ n d) p i:=hasP_congr (fun j hj=>(HEB.out e j hj).symm) i;rw [<-h2,h3] at h1;rcases hb with e | e | e
       ·exact absurd e (Rat.not_lt.2 h1.1)
       ·exact absurd e (Rat.not_lt.2 h1.2.1)
       ·exact e.2 (h1.2.2 e.1))
      go_wp2;refine pays_reg41 n i cash d F p _ ca da fa cb co cc db do_ dc fb fo fc g gc ra rd ro rc (HCS.out.mono KW.out jl) (HM.out.mono KW.out jl) (HFS.out.mono KW.out jl) (HP.out.mono KW3.out jl) h hn8 HC0.out HD0.out HR0.out HT0.out _ _ _ _ _ _ _ _ _ _ _ _ _ _ _ _ _ _ _ _ _ _ _ _ _ _ _ _ _ _ _ _ _ _ _ _ _ _ _ _ _ _ _ _ _ _ _ _ _ _ _ _ _ _ _ _ _ _ _ _ _ _ _ _ _ _ _ _ _ _ _ _ _ _ _ _ _ _ _ _ _ _ _ _ _ _ _ _ _ _ _ _ _ _ _ _ _ _ _ _ _ _ _ _ _ _ _ _ _ _ _ _ _ _ _ _ _ _ _ _ _ _ _ _ _ _ _ _ _ _ _ _ _ _ _ _ _ _ _ _ _ _ _ _ _ _ _ _ _ _ _ _ _ _ _ _ _ _ _ _ _ _ _ _ _ _ _ _ _ _ _ _ _ _ _ _ _ _ _ _ _ _ _ _ _ _ _ _ _ _ _ _ _ _ _ _ _ _ _ _ _ _ _ _ _ _ _ _ _ _ _ _ _ _ _ _ _ _ _ _ _ _ _ _ _ _ _ _ _ _ _ _ _ _ _ _ _ _ _ _ _ _ _ (fun _ _ o _ _ h=>by cases o <;> exact h) (fun r w9 z201 z202 z203 z204 z205 z206 z207 z208 z209 z210 z211 z212 z213 z214 z215 z216 z217 z218 z219 z220 z221 z222 z223 z224 z225 z226 z227 z228 z229 z230 z231 z232 z233 z234 z235 z236 z237 z238 z239 z240 z241 z242 z243 z244 hr hb=>?_) (by as_aux_lemma=>kernel_rfl);rcases r with _ | _
      ·go_wp2;go_roundw
       case rel=>exact⟨i+1,by omega,by go_num,jj (jb KW3.out hb)⟩
       case measure=>simp [intOf];omega
      ·have HNE:Hid (¬ E):=jj (fun e=>HXI.out e (hr.1 rfl));go_wp2;go_ret2;exact⟨.inr ⟨rfl,HNE.out⟩,jb KW.out hb⟩
     ·obtain rfl:n=i:=by omega
      have e1:decide ((n:Int)<(n:Int))=false:=by simp
      go_wp2;go_ret2;exact⟨.inl ⟨g,gc,p,rfl,Nat.le_trans KW2.out.size hgB,HP.out.mono KW3.out jl,HEB.out⟩,jb KW4.out KW3.out⟩
end Go.Proofs.YtgmopcncbpdniaaGreat
