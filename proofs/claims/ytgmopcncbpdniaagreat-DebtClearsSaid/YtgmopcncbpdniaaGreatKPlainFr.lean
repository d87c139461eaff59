import Derived.Test.YtgmopcncbpdniaaGreatKShelf
import Derived.Test.YtgmopcncbpdniaaGreatKPlainN
import Derived.Test.YtgmopcncbpdniaaGreatKPlainV
import Derived.Test.YtgmopcncbpdniaaGreatKGrp2
set_option linter.unusedVariables false
set_option linter.unusedSimpArgs false
namespace Go.Proofs.YtgmopcncbpdniaaGreat
theorem clsB_of {F:Nat->Bool} {R:Nat->Nat->Bool} {i:Nat} (h1:F i=true) (h2:R i i=true):∀ {n:Nat},(∀ j,j<n->R i j=true->F j=true/\R j i=true)->clsB F R i n=true
 | 0,_=>by show (F i && R i i)=true;rw [h1,h2];rfl
 | n+1,h=>by
  have ih:=clsB_of h1 h2 (n:=n) (fun j hj=>h j (by omega));unfold clsB;by_cases e:R i n=true
  ·rw [if_pos e,ih,(h n (by omega) e).1,(h n (by omega) e).2];rfl
  ·rw [if_neg e];exact ih
theorem fstB_of {R:Nat->Nat->Bool} {i:Nat} : ∀ {n:Nat},(∀ j,j<n->R i j=true->i<=j)->fstB R i n=true
 | 0,_=>rfl
 | n+1,h=>by
  have ih:=fstB_of (n:=n) (fun j hj=>h j (by omega));unfold fstB;by_cases e:R i n=true
  ·rw [if_pos e,ih,decide_eq_true (h n (by omega) e)];rfl
  ·rw [if_neg e];exact ih
def cntB (R:Nat->Nat->Bool) (i:Nat):Nat->Nat
 | 0=>0
 | j+1=>cntB R i j+(if R i j=true then 1 else 0)
theorem cntB_le {R:Nat->Nat->Bool} {a b:Nat} : ∀ {n:Nat},(∀ j,j<n->R a j=true->R b j=true)->cntB R a n<=cntB R b n
 | 0,_=>Nat.le_refl _
 | n+1,h=>by
  have ih:=cntB_le (n:=n) (fun j hj=>h j (by omega));unfold cntB;by_cases e:R a n=true
  ·rw [if_pos e,if_pos (h n (by omega) e)];omega
  ·rw [if_neg e];split <;> omega
theorem cntB_lt {R:Nat->Nat->Bool} {a b k:Nat} (h1:R b k=true) (h2:R a k≠true):∀ {n:Nat},k<n->(∀ j,j<n->R a j=true->R b j=true)->cntB R a n<cntB R b n
 | 0,hk,_=>by omega
 | n+1,hk,h=>by
  unfold cntB;by_cases e:k=n
  ·subst e;have:=cntB_le (n:=k) (fun j hj=>h j (by omega));rw [if_neg h2,if_pos h1];omega
  ·have ih:=cntB_lt h1 h2 (n:=n) (by omega) (fun j hj=>h j (by omega));by_cases e2:R a n=true
   ·rw [if_pos e2,if_pos (h n (by omega) e2)];omega
   ·rw [if_neg e2];split <;> omega
theorem cntB_pos {R:Nat->Nat->Bool} {i k:Nat} (h:R i k=true):∀ {n:Nat},k<n->0<cntB R i n
 | 0,hk=>by omega
 | n+1,hk=>by
  unfold cntB;by_cases e:k=n
  ·subst e;rw [if_pos h];omega
  ·have:=cntB_pos h (n:=n) (by omega);omega
theorem least_of {P:Nat->Prop} (k:Nat):P k->∃ m,P m/\∀ j,P j->m<=j:=by
 induction k using Nat.strongRecOn with
 | _ k ih=>
  intro h;by_cases e:∃ j,j<k/\P j
  ·obtain⟨j,hj,hp⟩:=e;exact ih j hj hp
  ·exact⟨k,h,fun j hp=>Nat.not_lt.1 (fun q=>e ⟨j,q,hp⟩)⟩
theorem free_in {F:Nat->Bool} {R:Nat->Nat->Bool} {n:Nat} {C:Nat->Prop} (hC:∀ l,C l->l<n/\F l=true) (hout:∀ l,C l->∃ m,m<n/\R l m=true) (hcl:∀ l m,m<n->C l->R l m=true->C m)
  (htr:∀ i j k,j<n->R i j=true->R j k=true->R i k=true) (c:Nat):∀ i,cntB R i n<=c->C i->∃ m,C m/\freB F R n m=true:=by
 induction c with
 | zero=>
  intro i hc hi;obtain⟨k,hk,hr⟩:=hout i hi;have:=cntB_pos hr hk;omega
 | succ c ih=>
  intro i hc hi;by_cases hall:∀ j,j<n->R i j=true->∀ k,k<n->R i k=true->R j k=true
  ·obtain⟨k0,hk0,hr0⟩:=hout i hi;obtain⟨m,⟨hm,hrm⟩,hle⟩:=least_of (P:=fun m=>m<n/\R i m=true) k0 ⟨hk0,hr0⟩;have hCm:=hcl i m hm hi hrm;have hmm:=hall m hm hrm m hm hrm;refine⟨m,hCm,?_⟩;unfold freB;rw [clsB_of (hC m hCm).2 hmm (fun j hj hr=>?_),fstB_of (fun j hj hr=>hle j ⟨hj,htr i m j hm hrm hr⟩)]
   ·rfl
   ·have hij:=htr i m j hm hrm hr;exact⟨(hC j (hcl i j hj hi hij)).2,hall j hj hij m hm hrm⟩
  ·have:∃ j,j<n/\R i j=true/\∃ k,k<n/\R i k=true/\R j k≠true:=by
    refine Classical.byContradiction (fun q=>hall (fun j hj hr k hk hrk=>?_));exact Classical.byContradiction (fun q2=>q ⟨j,hj,hr,k,hk,hrk,q2⟩)
   obtain⟨j,hj,hr,k,hk,hrk,hn⟩:=this;have hlt:=cntB_lt hrk hn (n:=n) hk (fun l hl hrl=>htr i j l hj hr hrl);exact ih j (by omega) (hcl i j hj hi hr)
section
variable {n:Nat} {cash:Nat->Int} {d:Nat->Nat->Int}
theorem noclosed_free (hd:∀ i j,0<=d i j) (F:Nat->Bool):NoClosed n (shQ n d) (fun i=>F i=true/\freB F (rch (owes d) n) n i=false):=by
 intro Z hZ hcl i hi
 have hedge:∀ j l,l<n->Z j->owes d j l=true->Z l:=fun j l hl hj ho=>by
  refine Classical.byContradiction (fun hn=>?_);have h0:=(hcl j hj).2 l hl hn;have h1:=(sh_iff hd j l hl).2 (by simpa [owes] using ho);rw [h0] at h1;exact absurd h1 Rat.lt_irrefl
 have hreach:∀ k,k<=n->∀ j l,l<n->Z j->rch (owes d) k j l=true->Z l:=fun k=>by
  induction k with
  | zero=>intro _ j l hl hj h;exact hedge j l hl hj h
  | succ k ih=>
   intro hk j l hl hj h;have h1:(rch (owes d) k j l || (rch (owes d) k j k && rch (owes d) k k l))=true:=h;rw [Bool.or_eq_true,Bool.and_eq_true] at h1;rcases h1 with a | ⟨a,b⟩
   ·exact ih (by omega) j l hl hj a
   ·exact ih (by omega) k l hl (ih (by omega) j k (by omega) hj a) b
 obtain⟨m,hm,hf⟩:=free_in (F:=F) (R:=rch (owes d) n) (C:=Z) (n:=n) (fun l hl=>⟨(hZ l hl).1,(hZ l hl).2.1⟩) (fun l hl=>by
  refine Classical.byContradiction (fun q=>?_)
  have h0:sumQ (fun i=>shQ n d l i) n=0:=sumQ_eq_zero n (fun i hi=>by
   have h9:=Int.not_lt.1 (fun e=>q ⟨i,hi,rch_edge l i (by simpa [owes] using e) n⟩);exact shQ_none (by have:=hd l i;omega))
  rw [(hcl l hl).1] at h0;exact absurd h0 (by decide)) (fun l m hm hl hr=>hreach n jl l m hm hl hr) (fun i j k hj h1 h2=>rch_trans n j i k hj h1 h2) (cntB (rch (owes d) n) i n) i jl hi
 have h3:=(hZ m hm).2.2;rw [hf] at h3;cases h3
theorem sys_free_row {F fr:Nat->Bool} {one:Int} {i:Nat} (hi:i<n) (hfr:fr i=true) (y:Nat->Rat):sumQ (fun j=>sysQ n cash d F fr one i j*y j) n=y i:=by
 have e:∀ j,j<n->sysQ n cash d F fr one i j*y j=if j=i then y i else 0:=fun j hj=>by
  unfold sysQ;rw [if_neg (by omega)];by_cases e1:j=i
  ·subst e1;simp [hfr];grind
  ·simp [e1,hfr];grind
 rw [sumQ_congr n e,sumQ_one _ i n hi (fun j _ hj=>by simp [hj])];simp
theorem sys_kernel_all (hm:Shr n (shQ n d)) (hd:∀ i j,0<=d i j) {F:Nat->Bool} {one:Int} {y:Nat->Rat}
  (hy:∀ i,i<n->sumQ (fun j=>sysQ n cash d F (freB F (rch (owes d) n) n) one i j*y j) n=0) (i:Nat) (hi:i<n):y i=0:=by
 have hF:=noclosed_free (n:=n) hd F
 have hz:∀ i,i<n->(F i=true/\freB F (rch (owes d) n) n i=false->y i=sumQ (fun j=>y j*shQ n d j i) n)/\(¬ (F i=true/\freB F (rch (owes d) n) n i=false)->y i=0):=fun i hi=>by
  have h:=hy i hi;rcases hfr:freB F (rch (owes d) n) n i with _ | _
  ·rw [sys_row hi hfr] at h;by_cases e:F i=true
   ·rw [if_pos e] at h;exact⟨fun _=>by grind,fun q=>absurd ⟨e,rfl⟩ q⟩
   ·rw [if_neg e] at h;exact⟨fun q=>absurd q.1 e,fun _=>by grind⟩
  ·rw [sys_free_row hi hfr] at h;exact⟨fun q=>(by cases q.2),fun _=>h⟩
 have a:=below_zero hm hF y (fun i hi hn=>by rw [(hz i hi).2 hn];exact Rat.le_refl) (fun i hi hf=>by
  have:=(hz i hi).1 hf;rw [<-this];exact Rat.le_refl) i hi
 have b:=below_zero hm hF (fun i=>-1*y i) (fun i hi hn=>by show -1*y i<=0;rw [(hz i hi).2 hn];grind) (fun i hi hf=>by
  have e:sumQ (fun j=>-1*y j*shQ n d j i) n = -1*sumQ (fun j=>y j*shQ n d j i) n:=by
   rw [<-sumQ_mul];exact sumQ_congr n (fun j _=>by grind)
  show -1*y i<=sumQ (fun j=>-1*y j*shQ n d j i) n;rw [e];have:=(hz i hi).1 hf;rw [<-this];exact Rat.le_refl) i hi
 have b' : -1*y i<=0:=b;grind
theorem least_free (hR:Rng n cash d) (hd:∀ i j,0<=d i j) {L:Nat->Rat} (hL:ClrQ n (cashQ cash) (totQ n d) (shQ n d) L) (hmin:∀ p,ClrQ n (cashQ cash) (totQ n d) (shQ n d) p->∀ i,i<n->L i<=p i)
  {F:Nat->Bool} (hF:∀ i,i<n->F i=true->L i=hasP n (cashQ cash) (shQ n d) L i) (i:Nat) (hi:i<n) (hfr:freB F (rch (owes d) n) n i=true):L i=0:=by
 have hS:=mktS_of hR hd
 have hc:clsB F (rch (owes d) n) i n=true:=by
  unfold freB at hfr;rw [Bool.and_eq_true] at hfr;exact hfr.1
 obtain⟨h1,h2,h3⟩:=clsB_spec hc;obtain⟨R,hRR⟩:∃ R,R=rch (owes d) n i:=⟨_,rfl⟩
 have hout:∀ j l,j<n->l<n->R j=true->¬ R l=true->shQ n d j l=0:=fun j l hj hl hrj hrl=>by
  have h9:=Int.not_lt.1 (fun e=>hrl (by
   rw [hRR] at hrj ⊢;exact rch_trans n j i l hj hrj (rch_edge j l (by simpa [owes] using e) n)))
  exact shQ_none (by have:=hd j l;omega)
 have hone:∀ j,j<n->R j=true->sumQ (fun l=>shQ n d j l) n=1:=fun j hj hrj=>by
  refine shQ_sum hd j ?_;rw [hRR] at hrj;obtain⟨l,h4,h5⟩:=rch_out (h3 j hj hrj).2;have hln:l<n:=by omega
  have h6:0<d j l:=by simpa [owes] using h5
  have:=sumF_mem (hd j) n l hln;omega
 have hone2:∀ j,j<n->R j=true->sumQ (fun l=>if R l=true then shQ n d j l else 0) n=1:=fun j hj hrj=>by
  rw [<-hone j hj hrj];refine sumQ_congr n (fun l hl=>?_);by_cases e:R l=true
  ·rw [if_pos e]
  ·rw [if_neg e,hout j l hj hl hrj e]
 obtain⟨Z,hZ⟩:∃ Z:Nat->Rat,Z=fun l=>if R l=true then 0 else L l:=⟨_,rfl⟩
 have Z0:∀ l,l<n->0<=Z l:=fun l hl=>by rw [hZ];dsimp only;split;exact Rat.le_refl;exact hL.pos l hl
 have U0:∀ l,l<n->0<=hasP n (cashQ cash) (shQ n d) Z l:=fun l hl=>by
  unfold hasP;have a:=hS.mq.c0 l hl;have b:0<=sumQ (fun j=>Z j*shQ n d j l) n:=sumQ_nonneg n (fun j hj=>Rat.mul_nonneg (Z0 j hj) (hS.mq.sh.pos j l));grind
 have hsp:∀ l,hasP n (cashQ cash) (shQ n d) L l=hasP n (cashQ cash) (shQ n d) Z l+sumQ (fun j=>if R j=true then L j*shQ n d j l else 0) n:=fun l=>by
  unfold hasP
  have:sumQ (fun j=>L j*shQ n d j l) n=sumQ (fun j=>Z j*shQ n d j l) n+sumQ (fun j=>if R j=true then L j*shQ n d j l else 0) n:=by
   rw [<-sumQ_add];refine sumQ_congr n (fun j _=>?_);rw [hZ];dsimp only;split <;> grind
  grind
 have hsum:sumQ (fun l=>if R l=true then hasP n (cashQ cash) (shQ n d) Z l else 0) n=0:=by
  have e1:sumQ (fun l=>if R l=true then L l else 0) n=sumQ (fun l=>if R l=true then hasP n (cashQ cash) (shQ n d) Z l else 0) n+sumQ (fun l=>sumQ (fun j=>if R l=true then (if R j=true then L j*shQ n d j l else 0) else 0) n) n:=by
   rw [<-sumQ_add];refine sumQ_congr n (fun l hl=>?_);by_cases e:R l=true
   ·simp only [e,if_true];rw [<-hsp l];exact hF l hl (h3 l hl (by rw [<-hRR];exact e)).1
   ·rw [if_neg e,if_neg e,sumQ_eq_zero n (fun j _=>by rw [if_neg e])];grind
  have e2:sumQ (fun l=>sumQ (fun j=>if R l=true then (if R j=true then L j*shQ n d j l else 0) else 0) n) n=sumQ (fun j=>if R j=true then L j else 0) n:=by
   rw [sumQ_swap];refine sumQ_congr n (fun j hj=>?_);by_cases e:R j=true
   ·rw [if_pos e,sumQ_congr n (g:=fun l=>L j*(if R l=true then shQ n d j l else 0)) (fun l _=>by by_cases e3:R l=true <;> simp [e,e3]),sumQ_mul,hone2 j hj e];grind
   ·rw [if_neg e];exact sumQ_eq_zero n (fun l _=>by by_cases e3:R l=true <;> simp [e,e3])
  rw [e2] at e1;grind
 have hzero:∀ l,l<n->R l=true->hasP n (cashQ cash) (shQ n d) Z l=0:=fun l hl hr=>by
  have hp:=U0 l hl;refine Classical.byContradiction (fun hne=>?_);have:=sumQ_pos (f:=fun l=>if R l=true then hasP n (cashQ cash) (shQ n d) Z l else 0) n l hl (fun k hk=>by (try dsimp only);split;exact U0 k hk;exact Rat.le_refl) (by (try dsimp only);rw [if_pos hr];grind);rw [hsum] at this;exact absurd this Rat.lt_irrefl
 have hsame:∀ l,l<n->¬ R l=true->hasP n (cashQ cash) (shQ n d) Z l=hasP n (cashQ cash) (shQ n d) L l:=fun l hl hr=>by
  rw [hsp l,sumQ_eq_zero n (fun j hj=>by
   by_cases e:R j=true
   ·rw [if_pos e,hout j l hj hl e hr];grind
   ·rw [if_neg e])]
  grind
 have hcZ:ClrQ n (cashQ cash) (totQ n d) (shQ n d) Z:=by
  refine⟨Z0,fun l hl=>?_,fun l hl=>?_,fun l hl=>?_⟩
  ·rw [hZ];dsimp only;split;exact hS.mq.t0 l hl;exact hL.tot l hl
  ·by_cases e:R l=true
   ·rw [show Z l=0 by rw [hZ];dsimp only;rw [if_pos e]];exact U0 l hl
   ·rw [hsame l hl e,show Z l=L l by rw [hZ];dsimp only;rw [if_neg e]];exact hL.has l hl
  ·by_cases e:R l=true
   ·right;rw [hzero l hl e,hZ];dsimp only;rw [if_pos e]
   ·rw [hsame l hl e,show Z l=L l by rw [hZ];dsimp only;rw [if_neg e]];exact hL.eq l hl
 have a:=hmin Z hcZ i hi;have b:=hL.pos i hi;rw [show Z i=0 by rw [hZ];dsimp only;rw [if_pos (by rw [hRR];exact h2)]] at a;grind
theorem sys_least (hR:Rng n cash d) (hd:∀ i j,0<=d i j) {L:Nat->Rat} (hL:ClrQ n (cashQ cash) (totQ n d) (shQ n d) L) (hmin:∀ p,ClrQ n (cashQ cash) (totQ n d) (shQ n d) p->∀ i,i<n->L i<=p i)
  {F:Nat->Bool} (hF:∀ i,i<n->(F i=true->L i=hasP n (cashQ cash) (shQ n d) L i)/\(F i=false->L i=totQ n d i)) (i:Nat) (hi:i<n) :
  sumQ (fun j=>sysQ n cash d F (freB F (rch (owes d) n) n) (-1) i j*L j) n=sysQ n cash d F (freB F (rch (owes d) n) n) (-1) i n:=by
 rcases hfr:freB F (rch (owes d) n) n i with _ | _
 ·rw [sys_row hi hfr];unfold sysQ rhsQ;rw [if_pos rfl];by_cases e2:F i=true
  ·have:=(hF i hi).1 e2;unfold hasP at this;simp [hfr,e2];grind
  ·have:=(hF i hi).2 (by simpa using e2);simp [hfr,e2];grind
 ·rw [sys_free_row hi hfr,least_free hR hd hL hmin (fun l hl=>(hF l hl).1) i hi hfr];unfold sysQ rhsQ;rw [if_pos rfl,if_pos hfr,if_neg (by omega)]
def freI (n:Nat) (cash:Nat->Int) (d:Nat->Nat->Int) (F fr:Nat->Bool) (one:Int) (r j:Nat):Int:=
 if j<n then payI n cash d (fun i=>F i && !fr i) r j else (if fr r=true then (if (r:Int)=one then 1 else 0) else if F r=true then cash r else sumF (d r) n)
theorem fre_small (hR:Rng n cash d) (hn:n<=8) (hd:∀ i j,0<=d i j) {F:Nat->Bool} {one:Int} {x:Nat->Rat}
  (hx:∀ i,i<n->sumQ (fun j=>sysQ n cash d F (freB F (rch (owes d) n) n) one i j*x j) n=sysQ n cash d F (freB F (rch (owes d) n) n) one i n) (i:Nat) (hi:i<n):MaxD (x i).num.natAbs/\MaxD (x i).den:=by
 have hF0:=noclosed_free (n:=n) hd F;obtain⟨fr,hfr⟩:∃ fr,fr=freB F (rch (owes d) n) n:=⟨_,rfl⟩;rw [<-hfr] at hx hF0
 have hF:NoClosed n (shQ n d) (fun i=>(F i && !fr i)=true):=fun Z hZ hcl=>hF0 Z (fun i hz=>by
  have h:(F i && !fr i)=true:=(hZ i hz).2;rw [Bool.and_eq_true] at h;exact⟨(hZ i hz).1,h.1,by simpa using h.2⟩) hcl
 obtain⟨_,p0,h0⟩:=rdy_of hR hn hd hF;have hs:=payI_sys hR hn hd hF h0.sol
 have hq:∀ j,((tI n d j:Int):Rat)*(x j / ((tI n d j:Int):Rat))=x j:=fun j=>by
  have h1:=tI_ne (n:=n) hd j;have h2:=Rat.mul_inv_cancel _ h1;rw [Rat.div_def];grind
 have he:∀ (z:Nat->Rat) r,sumQ (fun j=>(freI n cash d F fr one r j:Rat)*z j) n=sumQ (fun j=>(payI n cash d (fun i=>F i && !fr i) r j:Rat)*z j) n:=fun z r=>
  sumQ_congr n (fun j hj=>by unfold freI;rw [if_pos hj])
 have hsys:SysI n n (fun _=>False) (freI n cash d F fr one) 200000 (fun j=>x j / ((tI n d j:Int):Rat)):=by
  refine⟨fun r j hr hj=>?_,fun _ _ _ _ h=>h.elim,fun r hr=>?_,fun z h1 hz=>hs.ker z h1 (fun r hr=>by rw [<-he];exact hz r hr)⟩
  ·unfold freI;by_cases e:j<n
   ·rw [if_pos e];exact hs.bnd r j hr hj
   ·rw [if_neg e];have t1:=hR.tot r hr;have c1:=hR.csh r hr;split
    ·split <;> omega
    ·split <;> omega
  ·rw [he,payI_sum hd _ _ r hr,hq r];have e:sumQ (fun j=>((tI n d j:Int):Rat)*(x j / ((tI n d j:Int):Rat))*shQ n d j r) n=sumQ (fun j=>x j*shQ n d j r) n:=sumQ_congr n (fun j _=>by rw [hq j]);rw [e];have h:=hx r hr;unfold freI;rw [if_neg (Nat.lt_irrefl _)];rcases hfrr:fr r with _ | _
   ·rw [sys_row hr hfrr] at h;unfold sysQ rhsQ at h;rw [if_pos rfl] at h;by_cases hFr:F r=true
    ·simp only [hFr,hfrr] at h ⊢;simp at h ⊢;unfold cashQ at h;exact h
    ·have hf:F r=false:=by simpa using hFr
     simp only [hf,hfrr] at h ⊢;simp at h ⊢;unfold totQ at h;exact h
   ·rw [sys_free_row hr hfrr] at h;unfold sysQ rhsQ at h;rw [if_pos rfl,if_pos hfrr] at h;simp only [hfrr];rw [h];by_cases e1:(r:Int)=one
    ·simp [e1];grind
    ·simp [e1];grind
 obtain⟨P,Q,h1,h2,h3,h4⟩:=hsys.bound i hi;have hb:=bdI_mono 200000 n 8 hn;have t1:=hR.tot i hi;have et:(tI n d i).natAbs<=100000:=by have:=tI_pos (n:=n) hd i;unfold tI at *;split <;> split at this <;> omega
 have e:(Q:Rat)*x i=((tI n d i*P:Int):Rat):=by
  have h5:=tI_ne (n:=n) hd i;have h6:=Rat.mul_inv_cancel _ h5;rw [Rat.intCast_mul,<-h4,Rat.div_def];grind
 obtain⟨k1,k2⟩:=lowest_le h1 e
 have m1:(tI n d i*P).natAbs<=100000*bdI 200000 8:=by
  rw [Int.natAbs_mul];exact Nat.mul_le_mul et (Nat.le_trans h2 hb)
 have m2:Q.natAbs<=100000*bdI 200000 8:=Nat.le_trans (Nat.le_trans h3 hb) (Nat.le_mul_of_pos_left _ (by decide));exact⟨⟨Nat.lt_of_le_of_lt (Nat.le_trans k1 m1) bd_ten⟩,⟨Nat.lt_of_le_of_lt (Nat.le_trans k2 m2) bd_ten⟩⟩
end
end Go.Proofs.YtgmopcncbpdniaaGreat
