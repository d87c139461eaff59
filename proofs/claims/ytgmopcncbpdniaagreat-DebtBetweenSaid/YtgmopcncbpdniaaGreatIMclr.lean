import Derived.Test.YtgmopcncbpdniaaGreatIRnd
import Derived.Test.YtgmopcncbpdniaaGreatITakesE
import Derived.Test.YtgmopcncbpdniaaGreatIDue
import Derived.Test.YtgmopcncbpdniaaGreatIRNum
import Derived.Deep.DeepCutAuto
import Derived.Deep.CutBlock
set_option linter.unusedVariables false
set_option linter.unusedSimpArgs false
namespace Go.Proofs.YtgmopcncbpdniaaGreat
open Go.RowKit
attribute [local go_sem ↓] Go.wp_at_zero Go.wp_at_succ
def MonI (n:Nat) (cash:Nat→Int) (d:Nat→Nat→Int) (A:Nat→Bool) (k:Nat):Prop:=
 ∀ M:Nat→Prop,(∀ i,i<n→0<cash i→M i)→(∀ i j,i<n→j<n→(A i=true∨M i)→0<d i j→M j)→M k
theorem MonI.step {n:Nat} {cash:Nat→Int} {d:Nat→Nat→Int} {A:Nat→Bool} {i j:Nat} (hi:i<n) (hj:j<n) (h:A i=true∨MonI n cash d A i) (hs:0<d i j):MonI n cash d A j:=fun M h1 h2=>h2 i j hi hj (h.imp id (fun q=>q M h1 h2)) hs
structure MRel (n:Nat) (cash:Nat→Int) (d:Nat→Nat→Int) (A M0 M:Nat→Bool) (b:Bool) (i j:Nat):Prop where
 snd:∀ k,k<n→M k=true→MonI n cash d A k
 base:∀ k,k<n→0<cash k→M k=true
 yes:b=true→rankF M0 n<rankF M n
 no:b=false→M=M0∧∀ a c,a<n→c<n→(a<i∨(a=i∧c<j))→(A a=true∨M a=true)→0<d a c→M c=true
structure MSt (n:Nat) (cash:Nat→Int) (d:Nat→Nat→Int) (A M:Nat→Bool) (b:Bool):Prop where
 snd:∀ k,k<n→M k=true→MonI n cash d A k
 base:∀ k,k<n→0<cash k→M k=true
 fin:b=false→∀ a c,a<n→c<n→(A a=true∨M a=true)→0<d a c→M c=true
section
variable {n:Nat} {cash:Nat→Int} {d:Nat→Nat→Int} {A M0 M:Nat→Bool} {b:Bool} {i j:Nat}
theorem MSt.start (h:∀ k,k<n→M k=decide (0<cash k)):MSt n cash d A M true:=
 ⟨fun k hk hM=>fun N h1 _=>h1 k hk (by rw [h k hk] at hM;simpa using hM),fun k hk hc=>by rw [h k hk];simpa using hc,fun e=>nomatch e⟩
theorem MSt.rel (h:MSt n cash d A M b):MRel n cash d A M M false 0 0:=⟨h.snd,h.base,(fun e=>nomatch e),fun _=>⟨rfl,fun a c _ _ h=>by omega⟩⟩
theorem MRel.row (h:MRel n cash d A M0 M b i n):MRel n cash d A M0 M b (i+1) 0:=⟨h.snd,h.base,h.yes,fun e=>⟨(h.no e).1,fun a c ha hc q=>(h.no e).2 a c ha hc (by omega)⟩⟩
theorem MRel.skip (h:MRel n cash d A M0 M b i j) (hn:¬ (0<d i j∧(A i=true∨M i=true)∧M j=false)):MRel n cash d A M0 M b i (j+1):=
 ⟨h.snd,h.base,h.yes,fun e=>⟨(h.no e).1,fun a c ha hc q hA hd=>by
  by_cases g:a=i∧c=j
  ·obtain⟨rfl,rfl⟩:=g
   cases hM:M c
   ·exact absurd ⟨hd,hA,hM⟩ hn
   ·rfl
  ·exact (h.no e).2 a c ha hc (by omega) hA hd⟩⟩
theorem rankF_upd {G:Nat→Bool} {j:Nat} (hG:G j=false):∀ n,j<n→rankF (fun k=>if k=j then true else G k) n=rankF G n+1
 | 0,h=>by omega
 | n+1,h=>by
  rw [rankF_succ,rankF_succ]
  by_cases e:n=j
  ·subst e
   have:rankF (fun k=>if k=n then true else G k) n=rankF G n:=by
    unfold rankF;rw [frL_congr n (fun i hi=>if_neg (by omega))]
   rw [this,hG];simp
  ·rw [rankF_upd hG n (by omega),if_neg e];omega
theorem MRel.set (h:MRel n cash d A M0 M b i j) (hi:i<n) (hj:j<n) (h1:0<d i j) (h2:A i=true∨M i=true) (h3:M j=false):MRel n cash d A M0 (fun k=>if k=j then true else M k) true i (j+1):=
 ⟨fun k hk hM=>by
  by_cases e:k=j
  ·subst e;exact MonI.step hi hk (h2.imp id (h.snd i hi)) h1
  ·rw [if_neg e] at hM;exact h.snd k hk hM,fun k hk hc=>by
  by_cases e:k=j
  ·rw [if_pos e]
  ·rw [if_neg e];exact h.base k hk hc,fun _=>by
  rw [rankF_upd h3 n hj]
  cases hb:b
  ·rw [(h.no hb).1];omega
  ·have:=h.yes hb;omega,fun e=>nomatch e⟩
theorem MRel.st (h:MRel n cash d A M0 M b n 0):MSt n cash d A M b:=⟨h.snd,h.base,fun e a c ha hc=>(h.no e).2 a c ha hc (by omega)⟩
theorem MRel.less {g:Nat} (h:MRel n cash d A M0 M b n 0) (hg:2*(n - rankF M0 n)+1≤g):2*(n - rankF M n)+(if b then 1 else 0)<g:=by
 cases hb:b
 ·rw [(h.no hb).1];simp;omega
 ·have h1:=h.yes hb
  have h2:=rankF_le M n
  simp;omega
theorem MSt.iff (h:MSt n cash d A M false) (k:Nat) (hk:k<n):M k=true↔MonI n cash d A k:=
 ⟨h.snd k hk,fun q=>q (fun i=>i<n→M i=true) (fun i hi hc _=>h.base i hi hc) (fun i j hi hj hA hd _=>h.fin rfl i j hi hj (hA.imp id (fun q=>q hi)) hd) hk⟩
end
set_option maxHeartbeats 8000000 in
set_option maxRecDepth 100000 in
theorem money_any (b n:Nat) (cash:Nat→Int) (d:Nat→Nat→Int) (vc vd vt:Value) (A:Nat→Bool) (fa fc:Nat) (w:World) (hm:IsMkt w b n cash d vc vd vt) (h0:0<n) (hn:n≤8) (hF:Bls w fa n A) :
  Calls Tryz.prog 95 #[.pointer (some ⟨b,0,none⟩),.slice (some ⟨fa,0,none⟩) n fc] w fun e w'=>∃ fb M,e = .returned (.slice (some ⟨fb,0,none⟩) n n)∧w'.rowIs fb 4 n (bF M)∧(∀ k,k<n→(M k=true↔MonI n cash d A k))∧w.heap.size≤fb∧Below w.heap.size w w':=by
 obtain⟨c0,c1,c2,-,⟨ca,cb,co,cc,rfl,hcs⟩,⟨da,db,do_,dc,ra,rd,ro,rc,rfl,hdm⟩,-,hlt⟩:=hm
 have HCS:=Lib.hid hcs
 have HM:=Lib.hid hdm
 have HF:=Lib.hid hF
 have keepS:Hid (∀ w',Below w.heap.size w w'→w'.cell? ⟨b,0,none⟩=some (.int .i64 (n:Nat))∧w'.cell? ⟨b,1,none⟩=some (.slice ca n cc)∧w'.cell? ⟨b,2,none⟩=some (.slice da n dc)):=
  Lib.hid (fun w' hb=>⟨bel1 hb c0 hlt,bel1 hb c1 hlt,bel1 hb c2 hlt⟩)
 have hmk:=mkBn n (by omega)
 have O0:=Lib.hid ((World.rowIs_made w (.bool false) n 4).congr (g:=bF (fun j=>decide (j<0) && decide (0<cash j))) (fun i hi=>by unfold bF;simp))
 have K0:=Lib.hid (boxes1 w (.cells (madeCells #[.bool false] n) 4))
 clear hcs hdm hF c1 c2
 go_enter Tryz.func95,Tryz.ntmps95
 go_wp2
 clear c0 hmk
 obtain⟨fb,hfb⟩:∃ fb,fb=w.heap.size:=⟨_,rfl⟩
 rw [←hfb] at O0 ⊢
 have HFB:=Lib.hid hfb
 clear hfb
 go_loopw [17] (fun v17 wr=>∃ k:Nat,k≤n∧v17 = .int .i64 (k:Nat)∧Hid (wr.rowIs fb 4 n (bF (fun j=>decide (j<k) && decide (0<cash j))))∧Hid (Below w.heap.size w wr)) (fun v17 _=>n - (intOf v17).toNat)
 case atStart=>exact⟨0,by omega,rfl,O0,K0⟩
 case round=>
  clear O0 K0
  obtain⟨k,hk,rfl,OF,KW⟩:=hrel
  by_cases h:k<n
  ·have e1:decide ((k:Int)<(n:Int))=true:=by simpa using h
   have e1n:decide (k<n)=true:=by simpa using h
   obtain⟨y0,y1,-⟩:=keepS.out _ KW.out
   have ixc:=fun W=>ixI HCS.out k cc h W
   have yc:=(HCS.out.mono KW.out (Nat.le_refl _)).cell k h
   simp only [ic] at yc
   have ixb:=fun W=>ixB fb n n k h W
   have cf:=OF.out.cell h
   have ff:=OF.out.frozen k
   simp only [bF] at cf
   go_wp2
   go_roundw
   case rel=>
    refine⟨k+1,by omega,by go_num,Lib.hid ((OF.out.set k _).congr (fun i hi=>?_)),Lib.hid (KW.out.setCell (Nat.le_of_eq HFB.out.symm) _)⟩
    unfold bF
    by_cases e:i=k
    ·subst e;simp
    ·rw [if_neg e]
     by_cases e2:i<k
     ·simp [e2,show i<k+1 by omega]
     ·simp [e2,show ¬ i<k+1 by omega]
   case measure=>simp [intOf];omega
  ·obtain rfl:n=k:=by omega
   have e1:decide ((n:Int)<(n:Int))=false:=by simp
   have ST0:Hid (MSt n cash d A (fun j=>decide (j<n) && decide (0<cash j)) true):=Lib.hid (MSt.start (fun k hk=>by simp [hk]))
   go_wp2
   go_loopg [7] (2*n+1) (fun g v7 wr=>∃ (M:Nat→Bool) (more:Bool),v7 = .bool more∧2*(n - rankF M n)+(if more then 1 else 0)≤g∧Hid (wr.rowIs fb 4 n (bF M))∧Hid (MSt n cash d A M more)∧Hid (Below w.heap.size w wr))
   case atStart=>exact⟨_,true,rfl,by simp;omega,OF,ST0,KW⟩
   case round=>
    clear OF ST0 KW
    obtain⟨M,more,rfl,hgk,OF,ST,KW⟩:=hrel
    rcases more with _ | _
    ·go_wp2
     go_ret
     exact⟨fb,M,rfl,OF.out,fun k hk=>ST.out.iff k hk,Nat.le_of_eq HFB.out.symm,KW.out⟩
    ·have HGK:Hid (2*(n - rankF M n)+1≤gk):=Lib.hid (by simpa using hgk)
     clear hgk
     obtain⟨y0,-,y2⟩:=keepS.out _ KW.out
     have MR0:=Lib.hid ST.out.rel
     go_wp2
     clear y0 y2
     go_loopw [7,37] (fun v7 v37 wr=>∃ i:Nat,i≤n∧v37 = .int .i64 (i:Nat)∧∃ (M1:Nat→Bool) (more:Bool),v7 = .bool more∧Hid (wr.rowIs fb 4 n (bF M1))∧Hid (MRel n cash d A M M1 more i 0)∧Hid (Below w.heap.size w wr)) (fun _ v37 _=>n - (intOf v37).toNat)
     case atStart=>exact⟨0,by omega,rfl,M,false,rfl,OF,MR0,KW⟩
     case round=>
      clear OF MR0 KW ST
      obtain⟨i,hi,rfl,M1,more,rfl,OF,MR,KW⟩:=hrel
      by_cases h1:i<n
      ·have e2:decide ((i:Int)<(n:Int))=true:=by simpa using h1
       have e2n:decide (i<n)=true:=by simpa using h1
       obtain⟨y0,-,-⟩:=keepS.out _ KW.out
       go_wp2
       clear y0
       go_loopw [7,44] (fun v7 v44 wr=>∃ j:Nat,j≤n∧v44 = .int .i64 (j:Nat)∧∃ (M1:Nat→Bool) (more:Bool),v7 = .bool more∧Hid (wr.rowIs fb 4 n (bF M1))∧Hid (MRel n cash d A M M1 more i j)∧Hid (Below w.heap.size w wr)) (fun _ v44 _=>n - (intOf v44).toNat)
       case atStart=>exact⟨0,by omega,rfl,M1,more,rfl,OF,MR,KW⟩
       case round=>
        clear OF MR KW
        obtain⟨j,hj,rfl,M1,more,rfl,OF,MR,KW⟩:=hrel
        by_cases h2:j<n
        ·have e3:decide ((j:Int)<(n:Int))=true:=by simpa using h2
         have e3n:decide (j<n)=true:=by simpa using h2
         obtain⟨-,-,y2⟩:=keepS.out _ KW.out
         have ixm:=fun W=>ixM HM.out.top i dc h1 W
         have ixr:=fun W=>ixI (HM.out.row i h1) j (rc i) h2 W
         have hM1:=HM.out.mono KW.out (Nat.le_refl _)
         have z0:=hM1.top.cell i h1
         have z1:=(hM1.row i h1).cell j h2
         simp only [ic] at z1
         have ixa:=fun W=>ixB fa n fc i h1 W
         have ixi:=fun W=>ixB fb n n i h1 W
         have ixj:=fun W=>ixB fb n n j h2 W
         have ca:=bel1 KW.out (HF.out.cell i h1) HF.out.lt
         have ci:=OF.out.cell h1
         have cj:=OF.out.cell h2
         have ff:=OF.out.frozen j
         simp only [bF] at ci cj
         clear hM1
         rcases hd:decide (0<d i j) with _ | _
         ·go_wp2
          go_roundw
          case rel=>exact⟨j+1,by omega,by go_num,M1,more,rfl,OF,Lib.hid (MR.out.skip (fun q=>by simp [q.1] at hd)),KW⟩
          case measure=>simp [intOf];omega
         ·rcases hA:A i with _ | _ <;> rcases hMi:M1 i with _ | _ <;> rcases hMj:M1 j with _ | _ <;> rw [hA] at ca <;> rw [hMi] at ci <;> rw [hMj] at cj
          all_goals
           go_wp2
           go_roundw
           case rel=>
            first
            | exact⟨j+1,by omega,by go_num,M1,more,rfl,OF,Lib.hid (MR.out.skip (fun q=>by simp [hA,hMi,hMj] at q)),KW⟩
            | exact⟨j+1,by omega,by go_num,_,true,rfl,Lib.hid ((OF.out.set j _).congr (fun k hk=>by unfold bF;by_cases e:k=j <;> simp [e])),Lib.hid (MR.out.set h1 h2 (by simpa using hd) (by simp [hA,hMi]) hMj),Lib.hid (KW.out.setCell (Nat.le_of_eq HFB.out.symm) _)⟩
           case measure=>simp [intOf];omega
        ·obtain rfl:n=j:=by omega
         have e3:decide ((n:Int)<(n:Int))=false:=by simp
         go_wp2
         go_roundw
         case rel=>exact⟨i+1,by omega,by go_num,M1,more,rfl,OF,Lib.hid MR.out.row,KW⟩
         case measure=>simp [intOf];omega
      ·obtain rfl:n=i:=by omega
       have e2:decide ((n:Int)<(n:Int))=false:=by simp
       go_wp2
       go_roundg (2*(n - rankF M1 n)+(if more then 1 else 0))
       case measure=>exact MR.out.less HGK.out
       case rel=>exact⟨M1,more,rfl,Nat.le_refl _,OF,Lib.hid MR.out.st,KW⟩
end Go.Proofs.YtgmopcncbpdniaaGreat
namespace Go.Proofs.YtgmopcncbpdniaaGreat
open Go.RowKit
attribute [local go_sem ↓] Go.wp_at_zero Go.wp_at_succ
theorem cmpQ_gt (a b:Rat):decide (0<cmpQ a b)=decide (b<a):=by
 have h:(0<cmpQ a b)↔b<a:=by
  have h1:0<cmpQ a b↔0<a.num*(b.den:Int) - b.num*(a.den:Int):=by
   unfold cmpQ sgnZ
   split
   ·omega
   ·split <;> omega
  rw [h1,Rat.lt_iff]
  omega
 exact decide_eq_decide.2 h
theorem cmpQ_ne (a b:Rat):(cmpQ a b != 0)=decide (a≠b):=by
 have h:cmpQ a b=0↔a=b:=by
  have h0:=cmpQ_lt a b
  have h1:=cmpQ_gt a b
  rw [decide_eq_decide] at h0 h1
  constructor
  ·intro e
   rw [e] at h0 h1
   have h2:¬ a<b:=fun q=>by have:=h0.2 q;omega
   have h3:¬ b<a:=fun q=>by have:=h1.2 q;omega
   grind
  ·intro e
   subst e
   have h2:¬ cmpQ a a<0:=fun q=>Rat.lt_irrefl (h0.1 q)
   have h3:¬ 0<cmpQ a a:=fun q=>Rat.lt_irrefl (h1.1 q)
   omega
 by_cases e:a=b
 ·rw [h.2 e];simp [e]
 ·have:cmpQ a b≠0:=fun q=>e (h.1 q)
  simp [e,this]
theorem sgnQ_neg (a:Rat):decide (sgnZ a.num<0)=decide (a<0):=by
 have h:sgnZ a.num<0↔a<0:=by
  have h1:sgnZ a.num<0↔a.num<0:=by unfold sgnZ;split;omega;split <;> omega
  rw [h1,Rat.lt_iff]
  simp
 exact decide_eq_decide.2 h
def wantQ (n:Nat) (cash:Nat→Int) (d:Nat→Nat→Int) (q:Nat→Rat) (i:Nat):Rat:=if totQ n d i<hasP n (cashQ cash) (shQ n d) q i then totQ n d i else hasP n (cashQ cash) (shQ n d) q i
def GdQ (n:Nat) (cash:Nat→Int) (d:Nat→Nat→Int) (q:Nat→Rat) (i:Nat):Prop:=0≤q i∧q i=wantQ n cash d q i
set_option maxHeartbeats 8000000 in
set_option maxRecDepth 100000 in
theorem mclr_any (b n pc P:Nat) (cash:Nat→Int) (d:Nat→Nat→Int) (vc vd vt:Value) (q:Nat→Rat) (K:Nat) (r:Bool) (hr:r=true↔∀ i,i<n→GdQ n cash d q i) (w:World) (hm:IsMkt w b n cash d vc vd vt) (hn:n≤8) (hR:Rng n cash d) (hp:IsRats w P 0 n q K) (hK4:4≤K) (hK:K≤100000000) :
  Calls Tryz.prog 67 #[.pointer (some ⟨b,0,none⟩),.slice (some ⟨P,0,none⟩) n pc] w fun e w'=>e = .returned (.bool r)∧Below w.heap.size w w':=by
 have HM:=Lib.hid hm
 have HR:=Lib.hid hR
 have HP:=Lib.hid hp
 have HRR:=Lib.hid hr
 obtain⟨c0,-,-,c3,-,-,⟨ta,tb,t_o,tc,rfl,hts⟩,hlt⟩:=hm
 have HTS:=Lib.hid hts
 have HC3:=Lib.hid (And.intro c3 hlt)
 have KW0:=Lib.hid (Below.refl w.heap.size w)
 clear hR hp hr c0 c3 hts
 go_enter Tryz.func67,Tryz.ntmps67
 go_wp2
 go_loopw [7,11] (fun v7 v11 wr=>∃ k:Nat,k≤n∧v11 = .int .i64 (k:Nat)∧Hid (∀ z,v7 = .pointer (some ⟨z,0,none⟩)→z<wr.heap.size)∧Hid (∀ i,i<k→GdQ n cash d q i)∧Hid (Below w.heap.size w wr)) (fun _ v11 _=>n - (intOf v11).toNat)
 case atStart=>exact⟨0,by omega,rfl,Lib.hid (fun z e=>by simp [undef] at e),Lib.hid (fun i hi=>by omega),KW0⟩
 case round=>
  clear KW0
  obtain⟨k,hk,rfl,HV0,HG,KW⟩:=hrel
  by_cases h:k<n
  ·have e1:decide ((k:Int)<(n:Int))=true:=by simpa using h
   have e1n:decide (k<n)=true:=by simpa using h
   have ixp:=fun W=>rowIx P n pc k h W
   obtain⟨sx,ax,nx,cx,ax2,nx2,cx2,PX0,KX0⟩:=HP.out k h
   rw [Nat.zero_add] at PX0
   have KX:=Lib.hid (KX0.mono KW.out (Nat.le_refl _))
   obtain⟨p0,p1,p2,p3,-⟩:=PX0.below KW.out PX0.lt
   have HX0:=Lib.hid (own4_new wr wr.heap.size rfl (.bool sx) (.slice ax nx cx) (.bool false) (.slice ax2 nx2 cx2) 92)
   have KB:=Lib.hid (boxes1 wr (.cells #[.bool sx,.slice ax nx cx,.bool false,.slice ax2 nx2 cx2] 92))
   obtain⟨Ti,hTi⟩:∃ Ti,Ti=sumF (d k) n:=⟨_,rfl⟩
   have HTi:=Lib.hid hTi
   have HT:Hid (-4611686018427387904<Ti∧Ti<4611686018427387904):=Lib.hid (by have:=HR.out.tot k h;omega)
   have HCS:Hid (0≤cash k∧cash k≤100000):=Lib.hid (by have:=HR.out.csh k h;omega)
   have HDS:Hid (∀ j,j<n→0≤d j k∧d j k≤1000∧0≤sumF (d j) n∧sumF (d j) n≤100000):=Lib.hid (fun j hj=>⟨(HR.out.deb j k hj h).1,(HR.out.deb j k hj h).2,(HR.out.tot j hj).1,(HR.out.tot j hj).2⟩)
   have ixt:=fun W=>ixI HTS.out k tc h W
   clear PX0 KX0
   go_wp2
   have KW1:=Lib.hid (KW.out.trans (KB.out.mono KW.out.size))
   have KX:=Lib.hid (KX.out.mono KB.out (Nat.le_refl _))
   have HV7:=Lib.hid (fun z e=>Nat.lt_of_lt_of_le (HV0.out z e) KB.out.size)
   obtain⟨xb,hxb⟩:∃ xb,xb=wr.heap.size:=⟨_,rfl⟩
   have HXB:Hid (w.heap.size≤xb):=Lib.hid (by rw [hxb];exact KW.out.size)
   rw [←hxb] at HX0 ⊢
   clear p0 p1 p2 p3 hxb KB
   generalize wr.alloc (.cells #[.bool sx,.slice ax nx cx,.bool false,.slice ax2 nx2 cx2] 92)=wb at *
   have HMb:=Lib.hid (HM.out.mono KW1.out (Nat.le_refl _))
   have HPb:=Lib.hid (HP.out.mono KW1.out (Nat.le_refl _))
   have yt:w.cell? ⟨tb,t_o+k,none⟩=some (.int .i64 Ti):=by have:=HTS.out.cell k h;simp only [ic] at this;rw [hTi];exact this
   have HYT:=Lib.hid (And.intro yt (HTS.out.lt (by omega)))
   clear yt hTi
   have keepR:Hid (∀ w',Below wb.heap.size wb w'→w'.cell? ⟨b,3,none⟩=some (.slice ta n tc)∧w'.cell? ⟨tb,t_o+k,none⟩=some (.int .i64 Ti)):=
    Lib.hid (fun w' hb=>⟨bel1 (KW1.out.trans (hb.mono KW1.out.size)) HC3.out.1 HC3.out.2,bel1 (KW1.out.trans (hb.mono KW1.out.size)) HYT.out.1 HYT.out.2⟩)
   have VL:=Lib.hid (Below.refl wb.heap.size wb).drew
   have HST:StaysB (fun w'=>w'.cell? ⟨b,3,none⟩=some (.slice ta n tc)∧w'.cell? ⟨tb,t_o+k,none⟩=some (.int .i64 Ti)):=fun w1 w2 h hb=>⟨cell_stays h.1 hb,cell_stays h.2 hb⟩
   refine wp_region_box2 HST (d:=7) (d2:=8) (zs:=#[.bool false,.slice none 0 0,.bool false,.slice none 0 0]) (t:=92) (by kernel_rfl) (by kernel_rfl) rfl rfl (fun a w=>by kernel_rfl) (fun a w=>by kernel_rfl) (by kernel_rfl) (fun _ _ _ _ _ h=>h) (keepR.out _ VL.out) (fun z e=>HV7.out z (by simpa using e)) (fun hHeld=>?_)
   simp only [List.pop_toArray,List.dropLast_cons_cons,List.dropLast_singleton]
   refine wte_begin [0,1,2,4,5,6,7,8,9,10] ?_
   iterate 10 (refine wte (v:=?_) HST rfl (by kernel_rfl) (fun _ _ _ h=>h) (by kernel_rfl) ?_ hHeld ?_;rotate_left;(focus intro w0 hSw;(try dsimp only at hSw);go_simp;all_goals (with_reducible rfl));simp only [Act.put,List.setIfInBounds_toArray,List.set_cons_zero,List.set_cons_succ])
   refine wte_end ?_
   refine wpAnyE_ready (rs:=[3]) (by kernel_rfl) (by simp) (fun we hext=>?_)
   have VL:=Lib.hid (bl_trans VL.out hext)
   have hHeld:=HST _ _ hHeld hext
   refine AllReadyE.cons rfl (fun Kn hKn=>?_) AllReadyE.nil
   go_simp
   (go_at_call 51;(with_reducible refine (has_any b n k cash d _ _ _ _ (HMb.out.mono VL.out (Nat.le_refl _)) h hn HDS.out HCS.out P 0 pc q K (HPb.out.mono VL.out (Nat.le_refl _)) hK4 (by omega)).mono ?_);rintro e w5 ⟨r5,rfl,hr5,hbc⟩;obtain⟨s5,a5,n5,c5,b5,l5,k5,rfl,QK5⟩:=hr5.shape;clear hr5)
   have VL:=Lib.hid (bl_trans VL.out hbc)
   go_wp2_with fail
   refine hKn.out _ _ ?_ ?_ (fun hHeld=>?_)
   ·(try dsimp only);exact keepR.out _ VL.out
   ·exact hbc
   clear hKn Kn hext hbc
   (try simp only [Act.put,List.setIfInBounds_toArray,List.set_cons_zero,List.set_cons_succ])
   refine wpAnyE_ready (rs:=[11]) (by kernel_rfl) (by simp) (fun we hext=>?_)
   have VL:=Lib.hid (bl_trans VL.out hext)
   have hHeld:=HST _ _ hHeld hext
   have QK5:=Lib.hid (QK5.out.mono hext (Nat.le_refl _))
   refine AllReadyE.cons rfl (fun Kn hKn=>?_) AllReadyE.nil
   go_simp
   (go_at_call 59;(with_reducible refine (rat_whole Ti HT.out.1 HT.out.2 _).mono ?_);rintro e w7 ⟨r7,rfl,hr7,hbc⟩;obtain⟨s7,a7,n7,c7,b7,l7,k7,rfl,QK7⟩:=hr7.shape;clear hr7)
   have QK5:=Lib.hid (QK5.out.mono hbc (Nat.le_refl _))
   have VL:=Lib.hid (bl_trans VL.out hbc)
   go_wp2_with fail
   refine hKn.out _ _ ?_ ?_ (fun hHeld=>?_)
   ·(try dsimp only);exact keepR.out _ VL.out
   ·exact hbc
   clear hKn Kn hext hbc
   (try simp only [Act.put,List.setIfInBounds_toArray,List.set_cons_zero,List.set_cons_succ])
   refine wpAnyE_done (by kernel_rfl) (fun we hext=>?_) _
   intro x wx hbx hx0 hxz y wy hby hy0 hyz hne
   have hxy:=hne x (by rfl)
   have hyx:=Ne.symm hxy
   have VL:=Lib.hid (bl_trans (bl_trans (bl_trans VL.out hext) hbx) hby)
   have QK5:=Lib.hid (((QK5.out.mono hext (Nat.le_refl _)).mono hbx (Nat.le_refl _)).mono hby (Nat.le_refl _))
   have QK7:=Lib.hid (((QK7.out.mono hext (Nat.le_refl _)).mono hbx (Nat.le_refl _)).mono hby (Nat.le_refl _))
   have OX:=Lib.hid ((own4_block hxz).below hby (own4_block hxz).lt)
   have OY:=Lib.hid (own4_block hyz)
   obtain⟨x0,x1,x2,x3,xf,xl⟩:=OX.out
   obtain⟨z0,z1,z2,z3,zf,zl⟩:=OY.out
   clear hne hext hbx hby hxz hyz ixp ixt
   simp only [Act.put,List.setIfInBounds_toArray,List.set_cons_zero,List.set_cons_succ]
   refine lastQ_step rfl (fun Kn hKn=>?_)
   go_simp
   refine hKn.out _ _ ?_
   clear hKn Kn
   (try simp only [Act.put,List.setIfInBounds_toArray,List.set_cons_zero,List.set_cons_succ])
   refine lastQ_step rfl (fun Kn hKn=>?_)
   go_simp
   refine hKn.out _ _ ?_
   clear hKn Kn
   (try simp only [Act.put,List.setIfInBounds_toArray,List.set_cons_zero,List.set_cons_succ])
   have OY1:=OY.out.set4 x (.bool s5) (.slice a5 n5 c5) (.bool false) (.slice b5 l5 k5) hxy
   have hxw:=HX0.out.lt
   have OX8:=Lib.hid ((OX.out.anew (.bool s5) (.slice a5 n5 c5) (.bool false) (.slice b5 l5 k5)).set4 y (.bool s7) (.slice a7 n7 c7) (.bool false) (.slice b7 l7 k7) hyx)
   have OY8:=Lib.hid (OY1.anew (.bool s7) (.slice a7 n7 c7) (.bool false) (.slice b7 l7 k7))
   have Q5:=Lib.hid ((QK5.out.into' (.bool s5) (.slice a5 n5 c5) (.bool false) (.slice b5 l5 k5) OX.out).into' (.bool s7) (.slice a7 n7 c7) (.bool false) (.slice b7 l7 k7) OY1)
   have Q7:=Lib.hid ((QK7.out.into' (.bool s5) (.slice a5 n5 c5) (.bool false) (.slice b5 l5 k5) OX.out).into' (.bool s7) (.slice a7 n7 c7) (.bool false) (.slice b7 l7 k7) OY1)
   have HV8:=Lib.hid (((HX0.out.below VL.out HX0.out.lt).set4 x (.bool s5) (.slice a5 n5 c5) (.bool false) (.slice b5 l5 k5) (by omega)).set4 y (.bool s7) (.slice a7 n7 c7) (.bool false) (.slice b7 l7 k7) (by omega))
   have KX8:=Lib.hid (((KX.out.mono VL.out (Nat.le_refl _)).into' (.bool s5) (.slice a5 n5 c5) (.bool false) (.slice b5 l5 k5) OX.out).into' (.bool s7) (.slice a7 n7 c7) (.bool false) (.slice b7 l7 k7) OY1)
   have KW8:=Lib.hid (below_set4q (below_set4q (KW1.out.trans (VL.out.mono KW1.out.size)) (b:=x) (by have:=KW1.out.size;omega) (.bool s5) (.slice a5 n5 c5) (.bool false) (.slice b5 l5 k5)) (b:=y) (by have:=KW1.out.size;omega) (.bool s7) (.slice a7 n7 c7) (.bool false) (.slice b7 l7 k7))
   have HXX:Hid (xb≠x∧xb≠y∧w.heap.size≤x):=Lib.hid ⟨by omega,by omega,by have:=KW1.out.size;omega⟩
   clear OY1 QK5 QK7 OX OY x0 x1 x2 x3 xf xl z0 z1 z2 z3 zf zl hHeld HST VL HMb HPb keepR HX0 KX KW1 hxw
   generalize ((((((((wy.setCell ⟨x,0,none⟩ (.bool s5)).setCell ⟨x,1,none⟩ (.slice a5 n5 c5)).setCell ⟨x,2,none⟩ (.bool false)).setCell ⟨x,3,none⟩ (.slice b5 l5 k5)).setCell ⟨y,0,none⟩ (.bool s7)).setCell ⟨y,1,none⟩ (.slice a7 n7 c7)).setCell ⟨y,2,none⟩ (.bool false)).setCell ⟨y,3,none⟩ (.slice b7 l7 k7))=w8 at *
   have HH:Hid (hasQ n cash d q k=hasP n (cashQ cash) (shQ n d) q k):=Lib.hid (hasQ_eq ..)
   have HT2:Hid (((Ti:Int):Rat)=totQ n d k):=Lib.hid (by rw [HTi.out];rfl)
   rw [HH.out] at Q5
   rw [HT2.out] at Q7
   obtain⟨x0,x1,x2,x3,xf,xl⟩:=OX8.out
   obtain⟨z0,z1,z2,z3,zf,zl⟩:=OY8.out
   go_upto_if 31 with (first | (go_at_call 62;(with_reducible refine (rat_cmp_val _ _ (hasP n (cashQ cash) (shQ n d) q k) (totQ n d k) (512*(K+1)) _ _ Q5.out (Q7.out.le (by omega)) (by omega) rfl).mono ?_);rintro e w9 ⟨rfl,hb9⟩))
   have OX8:=Lib.hid (OX8.out.below hb9 OX8.out.lt)
   have OY8:=Lib.hid (OY8.out.below hb9 OY8.out.lt)
   have HV8:=Lib.hid (HV8.out.below hb9 HV8.out.lt)
   have Q5:=Lib.hid (Q5.out.mono hb9 (Nat.le_refl _))
   have Q7:=Lib.hid (Q7.out.mono hb9 (Nat.le_refl _))
   have KX8:=Lib.hid (KX8.out.mono hb9 (Nat.le_refl _))
   have KW8:=Lib.hid (KW8.out.trans (hb9.mono KW8.out.size))
   clear x0 x1 x2 x3 xf xl z0 z1 z2 z3 zf zl hb9
   go_cut [] (fun wx=>∃ s9 a9 n9 c9 b9 l9 k9,Hid (Own4 wx x (.bool s9) (.slice a9 n9 c9) (.bool false) (.slice b9 l9 k9))∧Hid (RatIs wx (.agg #[.bool s9,.slice a9 n9 c9,.bool false,.slice b9 l9 k9]) (wantQ n cash d q k) (512*(K+1)))∧Hid (Own4 wx xb (.bool sx) (.slice ax nx cx) (.bool false) (.slice ax2 nx2 cx2))∧Hid (RatIs wx (.agg #[.bool sx,.slice ax nx cx,.bool false,.slice ax2 nx2 cx2]) (q k) K)∧Hid (Below w.heap.size w wx))
   case first=>
    obtain⟨x0,x1,x2,x3,xf,xl⟩:=OX8.out
    obtain⟨z0,z1,z2,z3,zf,zl⟩:=OY8.out
    by_cases hgt:totQ n d k<hasP n (cashQ cash) (shQ n d) q k
    ·have e2:decide (0<cmpQ (hasP n (cashQ cash) (shQ n d) q k) (totQ n d k))=true:=by rw [cmpQ_gt];simpa using hgt
     have e2p:0<cmpQ (hasP n (cashQ cash) (shQ n d) q k) (totQ n d k):=by simpa using e2
     have HW:Hid (wantQ n cash d q k=totQ n d k):=Lib.hid (by unfold wantQ;rw [if_pos hgt])
     clear hgt
     go_wp2_with fail
     go_meet
     case rel=>exact⟨s7,a7,n7,c7,b7,l7,k7,Lib.hid (OX8.out.anew (.bool s7) (.slice a7 n7 c7) (.bool false) (.slice b7 l7 k7)),Lib.hid (by rw [HW.out];exact (Q7.out.le (by omega)).into' (.bool s7) (.slice a7 n7 c7) (.bool false) (.slice b7 l7 k7) OX8.out),Lib.hid (HV8.out.set4 x (.bool s7) (.slice a7 n7 c7) (.bool false) (.slice b7 l7 k7) (Ne.symm HXX.out.1)),Lib.hid (KX8.out.into' (.bool s7) (.slice a7 n7 c7) (.bool false) (.slice b7 l7 k7) OX8.out),Lib.hid (below_set4q KW8.out HXX.out.2.2 (.bool s7) (.slice a7 n7 c7) (.bool false) (.slice b7 l7 k7))⟩
    ·have e2:decide (0<cmpQ (hasP n (cashQ cash) (shQ n d) q k) (totQ n d k))=false:=by rw [cmpQ_gt];simpa using hgt
     have e2p:cmpQ (hasP n (cashQ cash) (shQ n d) q k) (totQ n d k)≤0:=by simpa using e2
     have HW:Hid (wantQ n cash d q k=hasP n (cashQ cash) (shQ n d) q k):=Lib.hid (by unfold wantQ;rw [if_neg hgt])
     clear hgt
     go_wp2_with fail
     go_meet
     case rel=>exact⟨s5,a5,n5,c5,b5,l5,k5,OX8,Lib.hid (by rw [HW.out];exact Q5.out),HV8,KX8,KW8⟩
   case rest=>
    clear OX8 OY8 HV8 KX8 KW8 Q5 Q7
    obtain⟨s9,a9,n9,c9,b9,l9,k9,OX,QW,OV,KX,KW⟩:=hcut
    obtain⟨x0,x1,x2,x3,xf,xl⟩:=OX.out
    obtain⟨z0,z1,z2,z3,zf,zl⟩:=OV.out
    by_cases hneg:q k<0
    ·have e2:decide (sgnZ (q k).num<0)=true:=by rw [sgnQ_neg];simpa using hneg
     obtain rfl:r=false:=bool_false HRR.out (fun g=>absurd hneg (Rat.not_lt.2 (g k h).1))
     clear hneg
     go_wp2_with (first | (go_at_call 109;(with_reducible refine (rat_sign _ (q k) K _ KX.out).mono ?_);rintro e w9 ⟨rfl,hb9⟩))
     go_ret
     exact⟨rfl,KW.out.trans (hb9.mono KW.out.size)⟩
    ·have e2:decide (sgnZ (q k).num<0)=false:=by rw [sgnQ_neg];simpa using hneg
     have HN:=Lib.hid hneg
     clear hneg
     by_cases heq:q k=wantQ n cash d q k
     ·have e3:(cmpQ (q k) (wantQ n cash d q k) != 0)=false:=by rw [cmpQ_ne];simpa using heq
      have HE:=Lib.hid heq
      clear heq
      go_wp2_with (first
       | (go_at_call 109;(with_reducible refine (rat_sign _ (q k) K _ KX.out).mono ?_);rintro e w9 ⟨rfl,hb9⟩;have OX:=Lib.hid (OX.out.below hb9 OX.out.lt);have OV:=Lib.hid (OV.out.below hb9 OV.out.lt);have QW:=Lib.hid (QW.out.mono hb9 (Nat.le_refl _));have KX:=Lib.hid (KX.out.mono hb9 (Nat.le_refl _));have KW:=Lib.hid (KW.out.trans (hb9.mono KW.out.size));clear x0 x1 x2 x3 xf xl z0 z1 z2 z3 zf zl hb9;obtain⟨x0,x1,x2,x3,xf,xl⟩:=OX.out;obtain⟨z0,z1,z2,z3,zf,zl⟩:=OV.out)
       | (go_at_call 62;(with_reducible refine (rat_cmp_val _ _ (q k) (wantQ n cash d q k) (512*(K+1)) _ _ (KX.out.le (by omega)) QW.out (by omega) rfl).mono ?_);rintro e w10 ⟨rfl,hb10⟩;have HXL:=Lib.hid (OX.out.below hb10 OX.out.lt).lt;have KW:=Lib.hid (KW.out.trans (hb10.mono KW.out.size));clear hb10))
      go_roundw
      case rel=>exact⟨k+1,by omega,by go_num,Lib.hid (fun z e=>by injection e with e;injection e with e;injection e with e;subst e;exact HXL.out),Lib.hid (ext_lt HG.out ⟨Rat.not_lt.1 HN.out,HE.out⟩),KW⟩
      case measure=>simp [intOf];omega
     ·have e3:(cmpQ (q k) (wantQ n cash d q k) != 0)=true:=by rw [cmpQ_ne];simpa using heq
      obtain rfl:r=false:=bool_false HRR.out (fun g=>heq (g k h).2)
      clear heq
      go_wp2_with (first
       | (go_at_call 109;(with_reducible refine (rat_sign _ (q k) K _ KX.out).mono ?_);rintro e w9 ⟨rfl,hb9⟩;have OX:=Lib.hid (OX.out.below hb9 OX.out.lt);have OV:=Lib.hid (OV.out.below hb9 OV.out.lt);have QW:=Lib.hid (QW.out.mono hb9 (Nat.le_refl _));have KX:=Lib.hid (KX.out.mono hb9 (Nat.le_refl _));have KW:=Lib.hid (KW.out.trans (hb9.mono KW.out.size));clear x0 x1 x2 x3 xf xl z0 z1 z2 z3 zf zl hb9;obtain⟨x0,x1,x2,x3,xf,xl⟩:=OX.out;obtain⟨z0,z1,z2,z3,zf,zl⟩:=OV.out)
       | (go_at_call 62;(with_reducible refine (rat_cmp_val _ _ (q k) (wantQ n cash d q k) (512*(K+1)) _ _ (KX.out.le (by omega)) QW.out (by omega) rfl).mono ?_);rintro e w10 ⟨rfl,hb10⟩;have HXL:=Lib.hid (OX.out.below hb10 OX.out.lt).lt;have KW:=Lib.hid (KW.out.trans (hb10.mono KW.out.size));clear hb10))
      go_ret
      exact⟨rfl,KW.out⟩
  ·obtain rfl:n=k:=by omega
   have e1:decide ((n:Int)<(n:Int))=false:=by simp
   obtain rfl:r=true:=HRR.out.2 HG.out
   go_wp2
   go_ret
   exact⟨rfl,KW.out⟩
end Go.Proofs.YtgmopcncbpdniaaGreat
