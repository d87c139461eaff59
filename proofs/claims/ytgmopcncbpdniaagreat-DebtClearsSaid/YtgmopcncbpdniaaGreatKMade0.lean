import Derived.Test.YtgmopcncbpdniaaGreatKShelf
import Derived.Test.YtgmopcncbpdniaaGreatKGrp2
import Derived.Test.YtgmopcncbpdniaaGreatKCopy
import Derived.Deep.AppendLies
import Derived.BigRegion
import Derived.Test.YtgmopcncbpdniaaGreatKGen
import Derived.Maps.AppendAt
set_option maxHeartbeats 4000000
set_option maxRecDepth 100000
set_option linter.unusedVariables false
set_option linter.unusedSimpArgs false
namespace Go.Proofs.YtgmopcncbpdniaaGreat
open Go.RowKit
attribute [local go_sem ↓] Go.wp_at_zero Go.wp_at_succ
def blF:Nat->Int
 | 0=>3
 | 1=>-3
 | 2=>2
 | _=>-1
def smF (s:Nat):Int:=((mem s 5).map blF).foldl (· + ·) 0
def moL:List Nat:=[0,0,0,1,0,0,0,1,0,0,0,1,0,0,0,1,0,0,0,1,0,0,0,1,0,0,0,1,1,1,1,2]
def moF (s:Nat):Int:=((moL.getD s 0:Nat):Int)
def pmF (s j:Nat):Int:=(((mem s 10).take j).map (fun k=>moF (s - 2 ^ k))).foldl max 0
theorem mem5:∀ s,s<32->mem s 10=mem s 5:=fun s hs=>mem_done s 5 hs 5
theorem grp_facts:∀ s,s<32->∀ j,j<(mem s 10).length->(mem s 10).getD j 0<5/\2 ^ ((mem s 10).getD j 0)<=s/\s - 2 ^ ((mem s 10).getD j 0)<s/\
  bits .andNot .i64 (s:Int) (2 ^ ((mem s 10).getD j 0))=((s - 2 ^ ((mem s 10).getD j 0):Nat):Int)/\smF (s - 2 ^ ((mem s 10).getD j 0))+blF ((mem s 10).getD j 0)=smF s/\max (pmF s j) (moF (s - 2 ^ ((mem s 10).getD j 0)))=pmF s (j+1):=by decide +kernel
theorem grp_small:∀ s,s<32->-10<=smF s/\smF s<=10/\0<=moF s/\moF s<=10/\(0<s->0<(mem s 10).length/\pmF s (mem s 10).length+(if smF s=0 then 1 else 0)=moF s):=by decide +kernel
theorem pow_wrap:∀ K,K<5->IntKind.i64.wrap ((2:Int) ^ K)=2 ^ K/\RowKit.wrap64 ((2:Int) ^ K)=2 ^ K:=by decide +kernel
def LV:Nat->Nat
 | 0=>31
 | 1=>28
 | _=>0
def CV:Nat->Nat
 | 0=>3
 | _=>28
def LOW:Nat->Nat
 | 0=>1
 | _=>4
def bestF (c s:Nat):Nat:=if s<c then c else 0
theorem lv_facts:∀ q,q<2->0<LV q/\LV q<32/\bits .and .i64 (LV q:Int) (-(LV q:Int))=(LOW q:Int)/\LV q &&& LV q=LV q/\CV q<=LV q/\bits .andNot .i64 (LV q:Int) (CV q:Int)=(LV (q+1):Int)/\0<CV q/\moF (LV q)<=10:=by decide +kernel
set_option synthInstance.maxSize 4000 in
set_option synthInstance.maxHeartbeats 400000 in
theorem set_facts1:∀ q,q<2->∀ s,s<32->0<s->s &&& LV q=s->s<=LV q/\bits .and .i64 (s:Int) (LOW q:Int)=((s &&& LOW q:Nat):Int)/\bits .and .i64 ((s:Int) - 1) (LV q:Int)=(((s - 1) &&& LV q:Nat):Int)/\((s - 1) &&& LV q)<s:=by decide +kernel
theorem set_facts2:∀ q,q<2->∀ s,s<32->0<s->s &&& LV q=s->((s - 1) &&& LV q) &&& LV q=((s - 1) &&& LV q)/\bits .andNot .i64 (LV q:Int) (s:Int)=((LV q - s:Nat):Int):=by decide +kernel
set_option synthInstance.maxSize 4000 in
set_option synthInstance.maxHeartbeats 400000 in
theorem set_facts3:∀ q,q<2->∀ s,s<32->0<s->s &&& LV q=s->((s &&& LOW q≠0/\smF s=0/\1+moF (LV q - s)=moF (LV q))↔s=CV q):=by decide +kernel
set_option synthInstance.maxSize 4000 in
set_option synthInstance.maxHeartbeats 400000 in
theorem set_facts4:∀ q,q<2->∀ s,s<32->0<s->s &&& LV q=s->s=CV q->bestF (CV q) s=0/\bestF (CV q) ((s - 1) &&& LV q)=s:=by decide +kernel
set_option synthInstance.maxSize 4000 in
set_option synthInstance.maxHeartbeats 400000 in
theorem set_facts5:∀ q,q<2->∀ s,s<32->0<s->s &&& LV q=s->s≠CV q->bestF (CV q) ((s - 1) &&& LV q)=bestF (CV q) s:=by decide +kernel
def outL (q:Nat):List Nat:=[3,28].take q
theorem grp_zero:smF 0=0/\moF 0=0:=by decide +kernel
theorem pm_zero (s:Nat):pmF s 0=0:=by simp [pmF]
theorem pm_small:∀ s,s<32->∀ j,j<6->0<=pmF s j/\pmF s j<=10:=by decide +kernel
def rowF (F:Nat->Int) (s:Nat) (x:Int):Nat->Int:=fun i=>if i<s then F i else if i=s then x else 0
theorem intC_ics (L:List Nat):intC L=ics (fun i=>((L.getD i 0:Nat):Int)) L.length:=by
 apply List.ext_getElem?;intro i;by_cases h:i<L.length
 ·rw [ics_get _ _ _ h];simp [intC,h,ic]
 ·rw [List.getElem?_eq_none (by simp [intC];omega),List.getElem?_eq_none (by simp [ics];omega)]
theorem members_row (s:Nat) (w:World) (hs:s<1024) (h0:0<(mem s 10).length) :
  Calls Tryz.prog 77 #[.int .i64 (s:Nat)] w fun e w'=>∃ g cap,e = .returned (.slice (some ⟨g,0,none⟩) (mem s 10).length cap)/\IsSl w' (some ⟨g,0,none⟩) g 0 cap (mem s 10).length (ic (fun i=>(((mem s 10).getD i 0:Nat):Int)))/\w.heap.size<=g/\Below w.heap.size w w':=by
 refine (members_any s w hs).mono ?_;rintro e w' ⟨va,vk,rfl,ho,hb⟩;obtain⟨g,cap,hv,hg,hgl⟩:=ho.form h0;cases hv;refine⟨g,_,rfl,⟨?_,fun _=>rfl,fun _=>hgl,fun i hi=>?_,fun e=>by cases e⟩,hg,hb⟩
 ·rcases ho.2 with ⟨h1,h2⟩ | ⟨g',cap',cur,h1,_,_,h2,_⟩
  ·omega
  ·cases h1;exact h2
 ·rw [Nat.zero_add,ho.cellAt i (by omega)];simp [intC,ic,hi]
theorem IsSl.setFar {w:World} {a:Option Addr} {b o c n p o':Nat} {g:Nat->Value} (h:IsSl w a b o c n g) (hne:p≠b) (v:Value):IsSl (w.setCell ⟨p,o',none⟩ v) a b o c n g:=
 ⟨h.cap,h.at_,fun q=>by simp only [World.setCell,Array.size_modify];exact h.lt q,fun i hi=>(far_set _ _ _ _ _ _ hne).trans (h.cell i hi),h.nc⟩
def xF (s j:Nat):Int:=if j=0 then 0 else smF s
structure GS (w0 w:World) (A B s:Nat) (x y:Int):Prop where
 a:w.rowIs A 3 32 (ic (rowF smF s x))
 b:w.rowIs B 3 32 (ic (rowF moF s y))
 below:Below w0.heap.size w0 w
theorem GS.drew {w0 w:World} {A B s:Nat} {x y:Int} (h:GS w0 w A B s x y):GS w0 w.drew A B s x y:=⟨h.a.drew,h.b.drew,h.below.drew⟩
theorem GS.setA {w0 w:World} {A B s:Nat} {x y:Int} (h:GS w0 w A B s x y) (hne:A≠B) (hA:w0.heap.size<=A) (x':Int):GS w0 (w.setCell ⟨A,s,none⟩ (.int .i64 x')) A B s x' y:=
 ⟨(h.a.set _ _).congr fun i hi=>by
   simp only [ic,rowF];by_cases e:i=s
   ·subst e;simp
   ·simp [e],
  h.b.setOther (by exact hne.symm) _,h.below.setCell (by exact hA) _⟩
theorem GS.setB {w0 w:World} {A B s:Nat} {x y:Int} (h:GS w0 w A B s x y) (hne:A≠B) (hB:w0.heap.size<=B) (y':Int):GS w0 (w.setCell ⟨B,s,none⟩ (.int .i64 y')) A B s x y':=
 ⟨h.a.setOther (by exact hne) _,(h.b.set _ _).congr fun i hi=>by
   simp only [ic,rowF];by_cases e:i=s
   ·subst e;simp
   ·simp [e],h.below.setCell (by exact hB) _⟩
theorem GS.next {w0 w:World} {A B s:Nat} (h:GS w0 w A B s (smF s) (moF s)):GS w0 w A B (s+1) 0 0:=
 ⟨h.a.congr fun i hi=>by
   simp only [ic,rowF];by_cases e:i=s
   ·subst e;simp
   ·by_cases e2:i<s
    ·simp [e2,show i<s+1 by omega]
    ·simp [e,e2,show ¬ i<s+1 by omega],
  h.b.congr fun i hi=>by
   simp only [ic,rowF];by_cases e:i=s
   ·subst e;simp
   ·by_cases e2:i<s
    ·simp [e2,show i<s+1 by omega]
    ·simp [e,e2,show ¬ i<s+1 by omega],h.below⟩
theorem GS.below' {w0 w w':World} {A B s:Nat} {x y:Int} (h:GS w0 w A B s x y) (hb:Below w.heap.size w w'):GS w0 w' A B s x y:=
 ⟨rowIs_below h.a hb h.a.lt,rowIs_below h.b hb h.b.lt,h.below.trans (hb.mono h.below.size)⟩
theorem groups_live (v:Value) (w:World) (hv:Ints w v 5 blF) :
  Calls Tryz.prog 76 #[v] w fun e w'=>∃ va vk,e = .returned (.slice va 2 vk)/\Ints w' (.slice va 2 vk) 2 (fun i=>if i=0 then 3 else 28)/\Below w.heap.size w w':=by
 obtain⟨a,b,o,c,rfl,hs⟩:=hv;have HV:=jj hs;have hmk:=run_make_row' (P:=Tryz.prog) 24 3 (.int .i64 0) 8 Tryz.underlying24 infoI rfl .i64 .i64 32 (by omega) (by omega);simp only [Int.cast_ofNat_Int] at hmk;have HR0:=jj (World.rowIs_made w (.int .i64 0) 32 3);clear hs;go_enter Tryz.func76,Tryz.ntmps76;go_wp2
 go_cut [3,4] (fun v3 v4 wx=>∃ A B:Nat,v3 = .slice (some ⟨A,0,none⟩) 32 32/\v4 = .slice (some ⟨B,0,none⟩) 32 32/\Hid (wx.rowIs A 3 32 (ic (fun _=>0)))/\Hid (wx.rowIs B 3 32 (ic (fun _=>0)))/\A≠B/\w.heap.size<=A/\w.heap.size<=B/\Hid (Below w.heap.size w wx))
 case first=>
  go_region
  all_goals
   go_wp2_with fail;go_meet
   case rel=>
    have h1:=World.rowIs_made (w.alloc (.cells (madeCells #[.int .i64 0] 32) 3)) (.int .i64 0) 32 3;simp only [World.size_alloc] at h1;have hb:=(((jr w).alloc jl (.cells (madeCells #[.int .i64 0] 32) 3)).alloc (by simp) (.cells (madeCells #[.int .i64 0] 32) 3)).drew
    first
    | exact⟨w.heap.size,w.heap.size+1,rfl,rfl,jj (HR0.out.alloc _).drew,jj h1.drew,by omega,by omega,by omega,jj hb⟩
    | exact⟨w.heap.size+1,w.heap.size,rfl,rfl,jj h1.drew,jj (HR0.out.alloc _).drew,by omega,by omega,by omega,jj hb⟩
 case rest=>
  obtain⟨A,B,rfl,rfl,RA,RB,hne,hA,hB,KW⟩:=hcut
  have hrow0:∀ F:Nat->Int,F 0=0->∀ i,i<32->ic (fun _=>0) i=ic (rowF F 1 0) i:=fun F hF i hi=>by
   simp only [ic,rowF];by_cases e:i<1
   ·obtain rfl:i=0:=by omega
    simp [hF]
   ·simp [e]
  have G0:Hid (GS w wc A B 1 0 0):=jj ⟨RA.out.congr (hrow0 smF grp_zero.1),RB.out.congr (hrow0 moF grp_zero.2),KW.out⟩;clear RA RB KW hrow0;go_wp2;go_loopw [5] (fun v5 wr=>∃ s:Nat,1<=s/\s<=32/\v5 = .int .i64 (s:Nat)/\Hid (GS w wr A B s 0 0)) (fun v5 _=>32 - (intOf v5).toNat)
  case atStart=>exact⟨1,by omega,by omega,rfl,G0⟩
  case round=>
   clear G0;obtain⟨s,hs1,hs,rfl,G⟩:=hrel;by_cases h:s<32
   ·obtain⟨t1,t2,t3,t4,t5⟩:=grp_small s h;obtain⟨t6,t7⟩:=t5 (by omega);have HT:=jj t7;have gs:(s:Int)<32:=by omega
    clear t5 t7
    go_wp2_with (first
     | (go_at_call 77;(with_reducible refine (members_row s _ (by omega) t6).mono ?_);rintro e w1 ⟨g,cap,rfl,hsl,hg,hb⟩;have OW:=jj hsl;have hAl:=G.out.a.lt;have hBl:=G.out.b.lt;have G:=jj (G.out.below' hb);clear hsl hb))
    have OW0:=OW;have hlen:=mem_len s 10;have gA:A≠g:=by omega
    have gB:B≠g:=by omega
    go_loopw [29] (fun v29 wr=>∃ j:Nat,j<=(mem s 10).length/\v29 = .int .i64 (j:Nat)/\Hid (GS w wr A B s (xF s j) (pmF s j))/\Hid (IsSl wr (some ⟨g,0,none⟩) g 0 cap (mem s 10).length (ic (fun i=>(((mem s 10).getD i 0:Nat):Int))))) (fun v29 _=>(mem s 10).length - (intOf v29).toNat)
    case atStart=>exact⟨0,by omega,rfl,by rw [pm_zero];exact G,OW⟩
    case round=>
     clear G OW OW0;obtain⟨j,hj,rfl,G,OW⟩:=hrel;by_cases h2:j<(mem s 10).length
     ·obtain⟨f1,f2,f3,f4,f5,f6⟩:=grp_facts s h j h2;have ix0:=fun W=>ixI OW.out j cap h2 W
      have x0:=OW.out.cell j h2;simp only [ic,Nat.zero_add] at ix0 x0;have F6:=jj f6;clear f6;generalize (mem s 10).getD j 0=K at *
      have hb:=HV.out.mono G.out.below jl;have ixb:=fun W=>ixI hb K c f1 W
      have xb:=hb.cell K f1;obtain⟨r,hr⟩:∃ r,r=s - 2 ^ K:=⟨_,rfl⟩;rw [<-hr] at f3 f4 f5 F6;have ca:=G.out.a.cell (i:=r) (by omega);have ca2:=G.out.a.cell (i:=s) (by omega);have cb:=G.out.b.cell (i:=r) (by omega);have cb2:=G.out.b.cell (i:=s) (by omega);have fa:=G.out.a.frozen s;have fb:=G.out.b.frozen s;simp only [ic,rowF,if_pos f3,Nat.lt_irrefl,if_false,if_true] at ca ca2 cb cb2 xb;have g0:(0:Int)<=(r:Int):=Int.natCast_nonneg r;have g1:(r:Int)<32:=by omega
      have g2:(0:Int)<=(s:Int):=Int.natCast_nonneg s;have hwr:IntKind.i64.wrap (smF r+blF K)=smF r+blF K:=by rw [f5,IntKind.wrap_i64];omega
      have F5:=jj f5;obtain⟨p1,p2⟩:=pow_wrap K f1;have n1:¬ A=B:=hne;have n2:¬ B=A:=fun e=>hne e.symm
      clear hb hr f5;go_wp2
      go_region
      have G:=jj (G.out.setA hne hA (smF r+blF K)).drew;have OW:=jj (OW.out.setFar (o':=s) gA (.int .i64 (smF r+blF K))).drew;clear ix0 x0 xb ca ca2 cb cb2 fa fb;generalize (wr.setCell ⟨A,s,none⟩ (.int .i64 (smF r+blF K))).drew=wB at G OW ⊢;have cb:=G.out.b.cell (i:=r) (by omega);have cb2:=G.out.b.cell (i:=s) (by omega);have fb:=G.out.b.frozen s;simp only [ic,rowF,if_pos f3,Nat.lt_irrefl,if_false,if_true] at cb cb2;go_wp2
      go_region
      have G:=jj (G.out.setB hne hB (max (pmF s j) (moF r))).drew;have OW:=jj (OW.out.setFar (o':=s) gB (.int .i64 (max (pmF s j) (moF r)))).drew;go_wp2;go_roundw
      case rel=>
       refine⟨j+1,by omega,by go_num,?_,OW⟩;have e:xF s (j+1)=smF r+blF K:=by rw [F5.out];simp [xF]
       rw [e,<-F6.out];exact G
      case measure=>simp [intOf];omega
     ·have hje:j=(mem s 10).length:=by omega
      have hx:xF s j=smF s:=by unfold xF;rw [if_neg (by omega)]
      rw [hx] at G;have ca2:=G.out.a.cell (i:=s) (by omega);have cb2:=G.out.b.cell (i:=s) (by omega);have fb:=G.out.b.frozen s;simp only [ic,rowF,Nat.lt_irrefl,if_false,if_true] at ca2 cb2;have g2:(0:Int)<=(s:Int):=Int.natCast_nonneg s;have hpm:=pm_small s h j (by have:=mem5 s h;have:=mem_len s 5;rw [hje];rw [mem5 s h];omega);have hwr:IntKind.i64.wrap (pmF s j+1)=pmF s j+1:=by rw [IntKind.wrap_i64];omega
      have hmo:=HT.out;rw [<-hje] at hmo;clear hje;by_cases hz:smF s=0
      ·have d1:(smF s == 0)=true:=by simpa using hz
       have HZ:=jj hz;rw [if_pos hz] at hmo;have HMO:=jj hmo;clear hz hmo hx hpm;go_wp2;go_roundw
       case rel=>
        have G:=G.out.setB hne hB (pmF s j+1);refine⟨s+1,by omega,by omega,by go_num,jj ?_⟩;rw [HMO.out] at G ⊢;exact G.next
       case measure=>simp [intOf];omega
      ·have d1:(smF s == 0)=false:=by simpa using hz
       have HZ:=jj hz;rw [if_neg hz,Int.add_zero] at hmo;have HMO:=jj hmo;clear hz hmo hx hpm;go_wp2;go_roundw
       case rel=>
        have G:=G.out;rw [HMO.out] at G;exact⟨s+1,by omega,by omega,by go_num,jj G.next⟩
       case measure=>simp [intOf];omega
   ·have hs32:s=32:=by omega
    rw [hs32] at G;have hsd:decide ((s:Int)<32)=false:=by simp;omega
    clear hs32;generalize wr=wo at *
    clear wr;have hA2:=G.out.a.lt;have hB2:=G.out.b.lt;obtain⟨i0,hinf,hz0,hz1,hz2⟩:=info_parts infoI;have KW0:=jj (jr wo);go_wp2;go_loopw [8,9] (fun v8 v9 wr=>∃ q:Nat,q<=2/\v9 = .int .i64 (LV q:Nat)/\∃ va vk,v8 = .slice va q vk/\Hid (wr.ownsRow wo.heap.size 3 1 (.slice va q vk) q (intC (outL q)))/\Hid (Below wo.heap.size wo wr)) (fun v8 v9 _=>(intOf v9).toNat)
    case atStart=>exact⟨0,by omega,rfl,none,0,rfl,jj (World.ownsRow_nil _ _ _ _),KW0⟩
    case round=>
     clear KW0;obtain⟨q,hq,rfl,va,vk,rfl,OW,KW⟩:=hrel;by_cases h3:q<2
     ·obtain⟨l1,l2,l3,l4,l5,l6,l7,l8⟩:=lv_facts q h3;have d0:decide ((0:Int)<(LV q:Int))=true:=by simpa using l1
      have L6:=jj l6;clear l6;go_wp2;go_loopw [10,11] (fun v10 v11 wr=>∃ s:Nat,s<32/\s &&& LV q=s/\v11 = .int .i64 (s:Nat)/\v10 = .int .i64 (bestF (CV q) s:Nat)/\Hid (wr.ownsRow wo.heap.size 3 1 (.slice va q vk) q (intC (outL q)))/\Hid (Below wo.heap.size wo wr)) (fun _ v11 _=>(intOf v11).toNat)
      case atStart=>exact⟨LV q,l2,l4,rfl,by have:bestF (CV q) (LV q)=0:=(by unfold bestF;rw [if_neg (by omega)]);rw [this];rfl,OW,KW⟩
      case round=>
       clear OW KW;obtain⟨s,hs,hsub,rfl,rfl,OW,KW⟩:=hrel;by_cases h4:0<s
       ·have d1:decide ((0:Int)<(s:Int))=true:=by simpa using h4
        obtain⟨m1,m2,m3,m4⟩:=set_facts1 q h3 s hs h4 hsub;obtain⟨m5,m6⟩:=set_facts2 q h3 s hs h4 hsub;have M7:=jj (set_facts3 q h3 s hs h4 hsub);have M8:=jj (set_facts4 q h3 s hs h4 hsub);have M9:=jj (set_facts5 q h3 s hs h4 hsub);have M5:=jj m5;have ca:=(rowIs_below G.out.a KW.out hA2).cell (i:=s) hs;have cb:=(rowIs_below G.out.b KW.out hB2).cell (i:=LV q - s) (by omega);have cb2:=(rowIs_below G.out.b KW.out hB2).cell (i:=LV q) (by omega);simp only [ic,rowF,if_pos hs,if_pos l2,if_pos (show LV q - s<32 by omega)] at ca cb cb2;have hneg:IntKind.i64.wrap (-(LV q:Int)) = -(LV q:Int):=by rw [IntKind.wrap_i64];omega
        have hw1:IntKind.i64.wrap ((s:Int) - 1)=(s:Int) - 1:=by rw [IntKind.wrap_i64];omega
        obtain⟨_,_,b1,b2,_⟩:=grp_small (LV q - s) (by omega);have hwm:IntKind.i64.wrap (1+moF (LV q - s))=1+moF (LV q - s):=by rw [IntKind.wrap_i64];omega
        have g0:(0:Int)<=(s:Int):=Int.natCast_nonneg s;have g1:(s:Int)<32:=by omega
        have g2:(0:Int)<=(LV q:Int):=Int.natCast_nonneg _;have g3:(LV q:Int)<32:=by omega
        have g4:(0:Int)<=((LV q - s:Nat):Int):=Int.natCast_nonneg _;have g5:((LV q - s:Nat):Int)<32:=by omega
        have hls:∃ x,x=LV q - s:=⟨_,rfl⟩;clear m5 b1 b2 hls hsub;by_cases k1:s &&& LOW q=0
        ·have HNE:Hid (s≠CV q):=jj (fun e=>(M7.out.2 e).1 k1);have dA:(((s &&& LOW q:Nat):Int) == 0)=true:=by rw [k1];rfl
         clear k1;go_wp2
         go_quiet (fail)
         go_wp2;go_roundw
         case rel=>exact⟨(s - 1) &&& LV q,by omega,M5.out,by first | rfl | go_num,by rw [M9.out HNE.out],jj (show (wr.drewN nq).ownsRow _ _ _ _ _ _ from OW.out),jj (below_drawN KW.out nq)⟩
         case measure=>simp [intOf];omega
        ·have dA:(((s &&& LOW q:Nat):Int) == 0)=false:=by simpa using k1
         by_cases k2:smF s=0
         ·have dB:(smF s != 0)=false:=by rw [k2];rfl
          by_cases k3:1+moF (LV q - s)=moF (LV q)
          ·have dC:(1+moF (LV q - s) != moF (LV q))=false:=by rw [k3];simp
           have HE:Hid (s=CV q):=jj (M7.out.1 ⟨k1,k2,k3⟩);have hb0:=(M8.out HE.out).1;have dD:(((bestF (CV q) s:Nat):Int) == 0)=true:=by rw [hb0];rfl
           clear k1 k2 k3 hb0;go_wp2
           go_quiet (fail)
           go_wp2;go_roundw
           case rel=>exact⟨(s - 1) &&& LV q,by omega,M5.out,by first | rfl | go_num,by rw [(M8.out HE.out).2],jj (show (wr.drewN nq).ownsRow _ _ _ _ _ _ from OW.out),jj (below_drawN KW.out nq)⟩
           case measure=>simp [intOf];omega
          ·have dC:(1+moF (LV q - s) != moF (LV q))=true:=by simpa using k3
           have HNE:Hid (s≠CV q):=jj (fun e=>k3 (M7.out.2 e).2.2);clear k1 k2 k3;go_wp2
           go_quiet (fail)
           go_wp2;go_roundw
           case rel=>exact⟨(s - 1) &&& LV q,by omega,M5.out,by first | rfl | go_num,by rw [M9.out HNE.out],jj (show (wr.drewN nq).ownsRow _ _ _ _ _ _ from OW.out),jj (below_drawN KW.out nq)⟩
           case measure=>simp [intOf];omega
         ·have dB:(smF s != 0)=true:=by simpa using k2
          have HNE:Hid (s≠CV q):=jj (fun e=>k2 (M7.out.2 e).2.1);clear k1 k2;go_wp2
          go_quiet (fail)
          go_wp2;go_roundw
          case rel=>exact⟨(s - 1) &&& LV q,by omega,M5.out,by first | rfl | go_num,by rw [M9.out HNE.out],jj (show (wr.drewN nq).ownsRow _ _ _ _ _ _ from OW.out),jj (below_drawN KW.out nq)⟩
          case measure=>simp [intOf];omega
       ·obtain rfl:s=0:=by omega
        have hbest:bestF (CV q) 0=CV q:=by unfold bestF;rw [if_pos l7]
        rw [hbest]
        have hout:outL q ++ [CV q]=outL (q+1):=by
         have:q=0\/q=1:=by omega
         rcases this with e | e <;> rw [e] <;> rfl
        have HOUT:=jj hout;have hl6:=L6.out;have HBK:=jj OW.out.lt;have HSZ:=jj KW.out.size
        have hlt:LV (q+1)<LV q:=by
         have:q=0\/q=1:=by omega
         rcases this with e | e <;> rw [e] <;> decide
        clear hbest hout;go_wp2_with (at_builtin;refine wpList_append_own _ rfl (.tmp 126) (.tmp 128) 24 rfl wo.heap.size 3 i0 (.int .i64 0) 1 8 Tryz.underlying24 hinf hz0 hz1 hz2 rfl (by decide) (.slice va q vk) q (intC (outL q)) rfl (OW.out.alloc _) ⟨wr.heap.size,0,none⟩ 1 1 [.int .i64 (CV q:Nat)] rfl rfl (new1 wr (.int .i64 (CV q:Nat)) 3) (one1 _ rfl) (by unfold maxLen;omega) (by omega) (by simp;have:=HSZ.out;omega) ?_;intro v' w5 hown hgrow _;have KW:=jj ((KW.out.alloc KW.out.size _).grown hgrow (by have:=HSZ.out;simp;omega) (fun kk e=>(HBK.out kk e).1));rw [intC_app,HOUT.out] at hown;obtain⟨va',vk',rfl⟩:=own_shape hown;have OW:=jj hown;clear hown hgrow);go_roundw
        case rel=>exact⟨q+1,by omega,by first | rfl | go_num,va',vk',rfl,OW,KW⟩
        case measure=>simp [intOf];omega
     ·obtain rfl:q=2:=by omega
      have d0:decide ((0:Int)<(LV 2:Int))=false:=rfl;go_wp2;go_ret;have hints:=OW.out;rw [intC_ics] at hints;obtain⟨a',b',o',c',hvv,hsl⟩:=ints_of_own hints;refine⟨va,vk,rfl,⟨a',b',o',c',hvv,hsl.congr ?_⟩,G.out.below.trans (KW.out.mono G.out.below.size)⟩;intro i hi;have:i=0\/i=1:=by omega
      rcases this with e | e <;> rw [e] <;> rfl
theorem mem3:mem 3 10 = [0,1]:=by decide +kernel
theorem mem28:mem 28 10 = [2,3,4]:=by decide +kernel
theorem bal_ok:Balances 5 blF:=⟨by decide,by decide,by decide +kernel,by decide +kernel⟩
def g0F (i:Nat):Int:=i
def g1F (i:Nat):Int:=(i:Int)+2
theorem members3 (w:World):Calls Tryz.prog 77 #[.int .i64 3] w fun e w'=>∃ g cap,e = .returned (.slice (some ⟨g,0,none⟩) 2 cap)/\IsSl w' (some ⟨g,0,none⟩) g 0 cap 2 (ic g0F)/\w.heap.size<=g/\Below w.heap.size w w':=by
 have h:=members_row 3 w (by omega) (by rw [mem3];decide);refine Calls.mono (show Calls Tryz.prog 77 #[.int .i64 3] w _ from h) ?_;rintro e w' ⟨g,cap,he,hs,hg,hb⟩;rw [mem3] at he hs
 exact⟨g,cap,he,hs.congr (fun i hi=>by
  have hi:i<2:=hi;have:i=0\/i=1:=by omega
  rcases this with e | e <;> rw [e] <;> rfl),hg,hb⟩
theorem members28 (w:World):Calls Tryz.prog 77 #[.int .i64 28] w fun e w'=>∃ g cap,e = .returned (.slice (some ⟨g,0,none⟩) 3 cap)/\IsSl w' (some ⟨g,0,none⟩) g 0 cap 3 (ic g1F)/\w.heap.size<=g/\Below w.heap.size w w':=by
 have h:=members_row 28 w (by omega) (by rw [mem28];decide);refine Calls.mono (show Calls Tryz.prog 77 #[.int .i64 28] w _ from h) ?_;rintro e w' ⟨g,cap,he,hs,hg,hb⟩;rw [mem28] at he hs
 exact⟨g,cap,he,hs.congr (fun i hi=>by
  have hi:i<3:=hi;have:i=0\/i=1\/i=2:=by omega
  rcases this with e | e | e <;> rw [e] <;> rfl),hg,hb⟩
def gvI (q:Nat):Int:=if q=0 then 3 else 28
def gl (q:Nat):Nat:=if q=0 then 2 else 3
def gF (q:Nat):Nat->Int:=if q=0 then g0F else g1F
theorem members_q (q:Nat) (hq:q<2) (w:World):Calls Tryz.prog 77 #[.int .i64 (gvI q)] w fun e w'=>∃ g cap,e = .returned (.slice (some ⟨g,0,none⟩) (gl q) cap)/\IsSl w' (some ⟨g,0,none⟩) g 0 cap (gl q) (ic (gF q))/\w.heap.size<=g/\Below w.heap.size w w':=by
 have:q=0\/q=1:=by omega
 rcases this with e | e
 ·subst e;exact members3 w
 ·subst e;exact members28 w
def gCells (gg cc:Nat->Nat) (q:Nat):List Value:=(List.range q).map (fun i=>.slice (some ⟨gg i,0,none⟩) (gl i) (cc i))
def setQ (f:Nat->Nat) (i x:Nat):Nat->Nat:=fun j=>if j=i then x else f j
theorem gCells_succ (gg cc:Nat->Nat) (q g cap:Nat):gCells gg cc q ++ [.slice (some ⟨g,0,none⟩) (gl q) cap]=gCells (setQ gg q g) (setQ cc q cap) (q+1):=by
 unfold gCells;rw [List.range_succ,List.map_append];congr 1
 ·apply List.map_congr_left;intro i hi;have:i<q:=List.mem_range.1 hi;simp [setQ,show i≠q by omega]
 ·simp [setQ]
theorem gCells_get (gg cc:Nat->Nat) (q i:Nat) (h:i<q):(gCells gg cc q)[i]? = some (.slice (some ⟨gg i,0,none⟩) (gl i) (cc i)):=by simp [gCells,h]
structure GR (B:Nat) (w:World) (q:Nat) (v:Value) (gg cc:Nat->Nat):Prop where
 own:w.ownsRow B 24 1 v q (gCells gg cc q)
 row:∀ i,i<q->IsSl w (some ⟨gg i,0,none⟩) (gg i) 0 (cc i) (gl i) (ic (gF i))
 far:∀ i,i<q->v.ownBlock≠some (gg i)
theorem gl_pos (q:Nat):0<gl q:=by unfold gl;split <;> omega
theorem IsSl.grownO {w w':World} {a:Option Addr} {b o c n:Nat} {row:Option Nat} {q:Nat->Value} (h:IsSl w a b o c n q) (hg:w.grownBy w' row) (hne:some b≠row):IsSl w' a b o c n q where
 cap:=h.cap
 nc:=h.nc
 at_:=h.at_
 lt:=fun p=>jm (h.lt p) hg.size
 cell:=fun i hi=>hg.cell (h.cell i hi) hne
theorem Groups_live (v:Value) (w:World) (hv:Ints w v 5 blF) :
  Calls Tryz.prog 42 #[v] w fun e w'=>∃ vg,e = .returned (.tuple #[vg,.int .i64 0])/\Mat w' vg 2 (fun i=>if i=0 then 2 else 3) (fun i=>if i=0 then g0F else g1F)/\Below w.heap.size w w':=by
 have HV:=jj hv;clear hv;go_enter Tryz.func42,Tryz.ntmps42
 go_wp2_with (first
  | (go_at_call 75;(with_reducible refine (balanced_any v 5 blF true ⟨fun _=>bal_ok,fun _=>rfl⟩ _ HV.out (by omega)).mono ?_);rintro e w1 ⟨rfl,rfl⟩)
  | (go_at_call 76;(with_reducible refine (groups_live v _ HV.out).mono ?_);rintro e w1 ⟨va,vk,rfl,⟨a,b,o,c,hvv,hs⟩,hb⟩;cases hvv;have HS:=jj hs;have KW:=jj hb;clear hs hb))
 obtain⟨i0,hinf,hz0,hz1,hz2⟩:=info_parts infoIs;have KW0:=jj (jr w1)
 have HS:Hid (IsSl w1 va b o vk 2 (ic gvI)):=jj (HS.out.congr fun i hi=>by
  have:i=0\/i=1:=by omega
  rcases this with e | e <;> rw [e] <;> rfl)
 have hwl:va=some ⟨b,o,none⟩:=HS.out.at_ (by omega);go_loopw [4,13] (fun v4 v13 wr=>∃ q:Nat,q<=2/\v13 = .int .i64 (q:Nat)/\∃ va4 vk4 gg cc,v4 = .slice va4 q vk4/\Hid (GR w1.heap.size wr q (.slice va4 q vk4) gg cc)/\Hid (Below w1.heap.size w1 wr)) (fun _ v13 _=>2 - (intOf v13).toNat)
 case atStart=>exact⟨0,by omega,rfl,none,0,fun _=>0,fun _=>0,rfl,jj ⟨World.ownsRow_nil _ _ _ _,fun i e=>by omega,fun i e=>by omega⟩,KW0⟩
 case round=>
  have KWW:=KW;clear KW0 KW;obtain⟨q,hq,rfl,va4,vk4,gg,cc,rfl,G,KW⟩:=hrel;by_cases h:q<2
  ·have hix:=fun W=>ixI HS.out q vk h W
   have hc:=(HS.out.mono KW.out jl).cell q h;simp only [ic] at hc;have gq:(q:Int)<2:=by omega
   have HLT:=jj G.out.own.lt;have HROW:=jj G.out.row;have HFAR:=jj G.out.far;have OW:=jj G.out.own;clear hwl
   go_wp2_with (first
    | (go_at_call 77;(with_reducible refine (members_q q h _).mono ?_);rintro e w2 ⟨g,cap,rfl,hsl,hg,hb⟩;have SL:=jj hsl;have KW2:=jj (jb KW.out hb);have HG:=jj hg;have HB:=jj hb;have OW:=jj (own_kept OW.out hb);clear hsl hb hg)
    | (at_builtin;refine wpList_append_own_at _ rfl (.tmp 17) (.tmp 20) 25 rfl w1.heap.size 24 i0 (.slice none 0 0) 1 24 Tryz.underlying25 hinf hz0 hz1 hz2 rfl (by decide) (.slice va4 q vk4) q (gCells gg cc q) rfl (OW.out.alloc _) ⟨w2.heap.size,0,none⟩ 1 1 [.slice (some ⟨g,0,none⟩) (gl q) cap] rfl rfl (new1 w2 (.slice (some ⟨g,0,none⟩) (gl q) cap) 24) (one1 _ rfl) (by unfold maxLen;omega) (by omega) (by have:=KW2.out.size;simp;omega) ?_;intro v' w5 hown hgrow _ hbk;have HOWN:=jj hown;have HGROW:=jj hgrow;have HBK:=jj hbk;obtain⟨va5,vk5,rfl⟩:=own_shape hown;clear hown hgrow hbk))
   go_roundw
   case rel=>
    have hgl:g<w2.heap.size:=SL.out.lt (gl_pos q);have hsz:wr.heap.size<=w2.heap.size:=HB.out.size;refine⟨q+1,by omega,by go_num,va5,vk5,setQ gg q g,setQ cc q cap,rfl,jj ⟨?_,fun i hi=>?_,fun i hi=>?_⟩,jj ?_⟩
    ·rw [<-gCells_succ];exact HOWN.out
    ·by_cases e:i=q
     ·subst e;have h1:setQ gg i g i=g:=by simp [setQ]
      have h2:setQ cc i cap i=cap:=by simp [setQ]
      rw [h1,h2];exact (SL.out.alloc _).grownO HGROW.out (fun e=>by have:=(HLT.out g e.symm).2;have:=HG.out;omega)
     ·have h1:setQ gg q g i=gg i:=by simp [setQ,e]
      have h2:setQ cc q cap i=cc i:=by simp [setQ,e]
      rw [h1,h2];exact (((HROW.out i (by omega)).mono HB.out jl).alloc _).grownO HGROW.out (fun e2=>HFAR.out i (by omega) e2.symm)
    ·by_cases e:i=q
     ·subst e;have h1:setQ gg i g i=g:=by simp [setQ]
      rw [h1];rcases HBK.out with h3 | h3
      ·rw [h3];intro e2;have:=(HLT.out g e2).2;have:=HG.out;omega
      ·rw [h3];intro e2;have:=Option.some.inj e2;simp at this;omega
     ·have h1:setQ gg q g i=gg i:=by simp [setQ,e]
      rw [h1];have hgi:=(HROW.out i (by omega)).lt (gl_pos i);rcases HBK.out with h3 | h3
      ·rw [h3];exact HFAR.out i (by omega)
      ·rw [h3];intro e2;have:=Option.some.inj e2;simp at this;omega
    ·exact (KW2.out.alloc KW2.out.size _).grown HGROW.out (by have:=KW2.out.size;simp;omega) (fun kk e=>(HLT.out kk e).1)
   case measure=>simp [intOf];omega
  ·obtain rfl:q=2:=by omega
   go_wp2;go_ret2;obtain⟨a4,b4,o4,c4,hv4,hs4⟩:=Sl.of_own G.out.own (fun i hi=>gCells_get gg cc 2 i hi);refine⟨_,rfl,⟨a4,b4,o4,c4,fun i=>some ⟨gg i,0,none⟩,gg,fun _=>0,cc,hv4,⟨hs4,fun i hi=>?_⟩⟩,jb KWW.out KW.out⟩;have hr:=G.out.row i hi;have:i=0\/i=1:=by omega
   rcases this with e | e <;> subst e <;> exact hr
end Go.Proofs.YtgmopcncbpdniaaGreat
namespace Go.Proofs.YtgmopcncbpdniaaGreat
open Go.RowKit
theorem cut_any (v:Value) (n:Nat) (f:Nat->Int) (w:World) (hv:Ints w v n f) (hn:n<=9223372036854775807) :
  Calls Tryz.prog 20 #[v,.int .i64 9] w fun e w'=>∃ va vk,e = .returned (.slice va (min n 9) vk)/\w'.ownsRow w.heap.size 3 1 (.slice va (min n 9) vk) (min n 9) (ics f (min n 9))/\Below w.heap.size w w':=by
 obtain⟨a,b,o,c,rfl,hs⟩:=hv;obtain⟨i0,hinf,hz0,hz1,hz2⟩:=info_parts infoI;have hz:=sliced_zero;have hc:=hs.cap;obtain⟨k,hk⟩:∃ k,k=min n 9:=⟨_,rfl⟩;rw [<-hk];have hkn:k<=n:=by omega
 have hk9:k<=9:=by omega
 have hkc:k<=c:=by omega
 have hmin:min (n:Int) 9=(k:Int):=by omega
 have KW:=jj ((jr w).alloc jl (.cells #[] 3));have hown0:(w.alloc (.cells #[] 3)).ownsRow w.heap.size 3 1 (.slice (some ⟨w.heap.size,0,none⟩) 0 0) 0 []:=World.ownsRow_made w #[] 0 jl (by unfold maxLen;omega) rfl;have OW:=jj hown0;have HM:=jj hmin;clear hown0;by_cases h0:0<n
 ·obtain rfl:=hs.at_ h0;have HS:=jj (hs.alloc (.cells #[] 3));have HONE:=jj (ics_one f k);have HLEN:=jj (show (ics f k).length=k*1 by rw [ics_length];omega);have HNW:=jj (news_of HS.out k hkn);clear hk hs;go_enter Tryz.func20,Tryz.ntmps20;go_wp2_with (at_builtin;refine wpList_append_own _ rfl (.tmp 5) (.tmp 11) 24 rfl w.heap.size 3 i0 (.int .i64 0) 1 8 Tryz.underlying24 hinf hz0 hz1 hz2 rfl (by decide) (.slice (some ⟨w.heap.size,0,none⟩) 0 0) 0 [] rfl OW.out ⟨b,o,none⟩ k c (ics f k) rfl HLEN.out HNW.out HONE.out (by unfold maxLen;omega) (by omega) (by simp) ?_;intro v' w3 hown hgrow _;have KW:=jj (KW.out.grown hgrow (by simp) (fun kk e=>by cases e;exact Nat.le_refl _));have HOWN:=jj hown;clear hown hgrow);go_ret;have hown:=HOWN.out;rw [Nat.zero_add,List.nil_append] at hown;obtain⟨va,vk,rfl⟩:=own_shape hown;exact⟨va,vk,rfl,hown,KW.out⟩
 ·obtain rfl:n=0:=by omega
  obtain rfl:k=0:=by omega
  have hlast:∀ w3 v',w3.ownsRow w.heap.size 3 1 v' 0 []->Below w.heap.size w w3->∃ va vk,Ending.returned v' = .returned (.slice va 0 vk)/\w3.ownsRow w.heap.size 3 1 (.slice va 0 vk) 0 (ics f 0)/\Below w.heap.size w w3:=fun w3 v' ho hb=>by
   obtain⟨va,vk,rfl⟩:=own_shape ho;exact⟨va,vk,rfl,ho,hb⟩
  rcases a with _ | ad
  ·obtain rfl:=hs.nc rfl;clear hk hs hlast;go_enter Tryz.func20,Tryz.ntmps20;go_wp2_with (at_builtin;refine wpList_append_own_none rfl (.tmp 5) (.tmp 11) 24 rfl w.heap.size 3 i0 1 Tryz.underlying24 hinf (.slice (some ⟨w.heap.size,0,none⟩) 0 0) 0 [] rfl OW.out rfl ?_);go_ret;exact⟨_,_,rfl,OW.out,KW.out⟩
  ·clear hk hs;have HLAST:=jj hlast;clear hlast;go_enter Tryz.func20,Tryz.ntmps20;go_wp2_with (at_builtin;refine wpList_append_own _ rfl (.tmp 5) (.tmp 11) 24 rfl w.heap.size 3 i0 (.int .i64 0) 1 8 Tryz.underlying24 hinf hz0 hz1 hz2 rfl (by decide) (.slice (some ⟨w.heap.size,0,none⟩) 0 0) 0 [] rfl OW.out ad 0 c [] rfl rfl (fun j u h=>by simp at h) (fun u h=>by simp at h) (by unfold maxLen;omega) (by omega) (by simp) ?_;intro v' w3 hown hgrow _;have KW:=jj (KW.out.grown hgrow (by simp) (fun kk e=>by cases e;exact Nat.le_refl _));have HOWN:=jj hown;clear hown hgrow);go_ret;exact HLAST.out _ _ HOWN.out KW.out
def cutM (m:Nat->Nat) (i:Nat):Nat:=min (m i) 9
theorem rows_any (v:Value) (n:Nat) (m:Nat->Nat) (f:Nat->Nat->Int) (w:World) (hv:Mat w v n m f) (hn:n<=9223372036854775807) (hm:∀ i,i<n->m i<=9223372036854775807) :
  Calls Tryz.prog 21 #[v] w fun e w'=>∃ va vk,e = .returned (.slice va (min n 9) vk)/\Mat w' (.slice va (min n 9) vk) (min n 9) (cutM m) f/\Below w.heap.size w w':=by
 obtain⟨a,b,o,c,ra0,rb0,ro0,rc0,rfl,hs⟩:=hv;have HS:=jj hs;have HM:=jj hm;obtain⟨i0,hinf,hz0,hz1,hz2⟩:=info_parts infoM;obtain⟨N,hN⟩:∃ N,N=min n 9:=⟨_,rfl⟩;rw [<-hN];have hNn:N<=n:=by omega
 have hN9:N<=9:=by omega
 have HN:=jj hN;have KW0:=jj ((jr w).alloc jl (.cells #[] 24));have G0:=jj (RowsIn.start (m:=cutM m) (f:=f) (World.ownsRow_made (e:=24) (base:=w.heap.size) (size:=1) w #[] 0 jl (by unfold maxLen;omega) rfl));clear hs hm hN;go_enter Tryz.func21,Tryz.ntmps21;go_wp2;go_loopw [3,4] (fun v3 v4 wr=>∃ q:Nat,q<=N/\v4 = .int .i64 (q:Nat)/\∃ va vk ra rc,v3 = .slice va q vk/\Hid (RowsIn w.heap.size wr q (.slice va q vk) ra rc (cutM m) f)/\Hid (Below w.heap.size w wr)) (fun _ v4 _=>N - (intOf v4).toNat)
 case atStart=>exact⟨0,by omega,rfl,_,0,_,_,rfl,G0,KW0⟩
 case round=>
  clear G0 KW0;obtain⟨q,hq,rfl,va4,vk4,ra,rc,rfl,G,KW⟩:=hrel;by_cases h:q<N
  ·have hqn:q<n:=by omega
   have e1:decide ((q:Int)<(n:Int))=true:=by simpa using hqn
   have e1n:decide (q<n)=true:=by simpa using hqn
   have e2:decide ((q:Int)<=8)=true:=by simp;omega
   have hix:=fun W=>ixM HS.out.top q c hqn W
   have hc:=(HS.out.top.mono KW.out jl).cell q hqn;have HROW:Hid (Ints wr (.slice (ra0 q) (m q) (rc0 q)) (m q) (f q)):=jj ⟨_,_,_,_,rfl,(HS.out.row q hqn).mono KW.out jl⟩
   go_wp2_with (first
    | (go_at_call 20;(with_reducible refine (cut_any _ (m q) (f q) _ HROW.out (HM.out q hqn)).mono ?_);rintro e w2 ⟨va2,vk2,rfl,ho2,hb2⟩;have OW2:Hid (w2.ownsRow wr.heap.size 3 1 (.slice va2 (cutM m q) vk2) (cutM m q) (ics (f q) (cutM m q))):=jj ho2;have HB2:=jj hb2;have KW2:=jj (jb KW.out hb2);have OW:=jj (own_kept G.out.own hb2);clear ho2 hb2)
    | (at_builtin;refine wpList_append_own_at _ rfl (.tmp 16) (.tmp 22) 25 rfl w.heap.size 24 i0 (.slice none 0 0) 1 24 Tryz.underlying25 hinf hz0 hz1 hz2 rfl (by decide) (.slice va4 q vk4) q (rowCells ra (cutM m) rc q) rfl (OW.out.alloc _) ⟨w2.heap.size,0,none⟩ 1 1 [.slice va2 (cutM m q) vk2] rfl rfl (new1 w2 (.slice va2 (cutM m q) vk2) 24) (one1 _ rfl) (by unfold maxLen;omega) (by omega) (by have:=KW2.out.size;simp;omega) ?_;intro v' w5 hown hgrow _ hbk;have HOWN:=jj hown;have HGROW:=jj hgrow;have HBK:=jj hbk;obtain⟨va5,vk5,rfl⟩:=own_shape hown;clear hown hgrow hbk))
   go_roundw
   case rel=>
    have G2:=G.out.push KW.out.size HB2.out OW2.out _ HGROW.out HBK.out HOWN.out;exact⟨q+1,by omega,by go_num,va5,vk5,_,_,rfl,jj G2,jj ((KW2.out.alloc KW2.out.size _).grown HGROW.out (by have:=KW2.out.size;simp;omega) (fun kk e=>(G.out.own.lt kk e).1))⟩
   case measure=>simp [intOf];omega
  ·obtain rfl:q=N:=by omega
   have hlast:RowsIn w.heap.size wr q (.slice va4 q vk4) ra rc (cutM m) f/\Below w.heap.size w wr:=⟨G.out,KW.out⟩;have HL:=jj hlast;clear hlast;by_cases h9:q<n
   ·have e1:decide ((q:Int)<(n:Int))=true:=by simpa using h9
    have e1n:decide (q<n)=true:=by simpa using h9
    have e2:decide ((q:Int)<=8)=false:=by have:=HN.out;simp;omega
    go_wp2;go_ret;exact⟨_,_,rfl,HL.out.1.mat,HL.out.2⟩
   ·have e1:decide ((q:Int)<(n:Int))=false:=by simpa using h9
    have e1n:decide (q<n)=false:=by simpa using h9
    go_wp2;go_ret;exact⟨_,_,rfl,HL.out.1.mat,HL.out.2⟩
section
variable {B:Nat} {w w':World} {q:Nat} {v:Value} {ra:Nat->Option Addr} {rc m:Nat->Nat} {f:Nat->Nat->Int}
theorem RowsIn.below (G:RowsIn B w q v ra rc m f) (hb:Below w.heap.size w w'):RowsIn B w' q v ra rc m f:=
 ⟨own_kept G.own hb,fun i hi=>own_kept (G.row i hi) hb,G.far,G.apart⟩
end
end Go.Proofs.YtgmopcncbpdniaaGreat
