import Derived.Test.YtgmopcncbpdniaaGreatKShelf
import Derived.Test.YtgmopcncbpdniaaGreatKPlainC
import Derived.Test.YtgmopcncbpdniaaGreatKPlainS
import Derived.Test.YtgmopcncbpdniaaGreatKGrp2
import Derived.Test.YtgmopcncbpdniaaGreatKReach2
set_option linter.unusedVariables false
set_option linter.unusedSimpArgs false
namespace Go.Proofs.YtgmopcncbpdniaaGreat
structure MktS (n:Nat) (c T:Nat->Rat) (S:Nat->Nat->Rat):Prop where
 mq:MktQ n c T S
 one:∀ j,j<n->0<T j->sumQ (fun i=>S j i) n=1
 nil:∀ j,j<n->T j=0->∀ i,S j i=0
def Mon (n:Nat) (c:Nat->Rat) (S:Nat->Nat->Rat) (A:Nat->Bool) (k:Nat):Prop:=
 ∀ M:Nat->Prop,(∀ i,i<n->0<c i->M i)->(∀ i j,i<n->j<n->(A i=true\/M i)->0<S i j->M j)->M k
section
variable {n:Nat} {c T:Nat->Rat} {S:Nat->Nat->Rat} {A:Nat->Bool} {x y:Nat->Rat}
theorem Mon.cash {i:Nat} (hi:i<n) (h:0<c i):Mon n c S A i:=fun M h1 _=>h1 i hi h
theorem Mon.step {i j:Nat} (hi:i<n) (hj:j<n) (h:A i=true\/Mon n c S A i) (hs:0<S i j):Mon n c S A j:=fun M h1 h2=>h2 i j hi hj (h.imp id (fun q=>q M h1 h2)) hs
theorem hasP_nn (hm:MktQ n c T S) (h0:∀ i,i<n->0<=y i) (i:Nat):0<=sumQ (fun j=>y j*S j i) n:=sumQ_nonneg n (fun j hj=>Rat.mul_nonneg (h0 j hj) (hm.sh.pos j i))
theorem hasP_mono (hm:MktQ n c T S) (h:∀ j,j<n->x j<=y j) (i:Nat):hasP n c S x i<=hasP n c S y i:=by
 unfold hasP;have:=sumQ_le n (f:=fun j=>x j*S j i) (g:=fun j=>y j*S j i) (fun j hj=>Rat.mul_le_mul_of_nonneg_right (h j hj) (hm.sh.pos j i));grind
theorem sh_tot (hm:MktS n c T S) {i j:Nat} (hi:i<n) (h:0<S i j):0<T i:=by
 have h1:=hm.mq.t0 i hi;by_cases e:T i=0
 ·have:=hm.nil i hi e j;rw [this] at h;exact absurd h Rat.lt_irrefl
 ·grind
structure Sup (n:Nat) (c T:Nat->Rat) (S:Nat->Nat->Rat) (A:Nat->Bool) (y:Nat->Rat):Prop where
 pos:∀ i,i<n->0<=y i
 on:∀ i,i<n->A i=true->T i<=y i
 no:∀ i,i<n->A i=false->hasP n c S y i<=y i
theorem sup_mon (hm:MktS n c T S) (hy:Sup n c T S A y) {k:Nat} (h:Mon n c S A k) (hk:k<n):0<hasP n c S y k:=by
 refine h (fun i=>i<n->0<hasP n c S y i) (fun i _ hc hi=>?_) (fun i j hi hj h hs _=>?_) hk
 ·have:=hasP_nn hm.mq hy.pos i;unfold hasP;grind
 ·have hp:0<y i:=by
   by_cases e:A i=true
   ·have h1:=hy.on i hi e;have h2:=sh_tot hm hi hs;grind
   ·rcases h with h | h
    ·exact absurd h e
    ·have h1:=h hi;have h2:=hy.no i hi (by simpa using e);grind
  have h1:=sumQ_pos (f:=fun l=>y l*S l j) n i hi (fun l hl=>Rat.mul_nonneg (hy.pos l hl) (hm.mq.sh.pos l j)) (Rat.mul_pos hp hs);have h2:=hm.mq.c0 j hj;unfold hasP;grind
theorem sup_pos (hm:MktS n c T S) (hy:Sup n c T S A y) {i j:Nat} (hi:i<n) (h:A i=true\/Mon n c S A i) (hs:0<S i j):0<y i:=by
 by_cases e:A i=true
 ·have h1:=hy.on i hi e;have h2:=sh_tot hm hi hs;grind
 ·rcases h with h | h
  ·exact absurd h e
  ·have h1:=sup_mon hm hy h hi;have h2:=hy.no i hi (by simpa using e);grind
theorem sup_nc (hm:MktS n c T S) (hy:Sup n c T S A y):NoClosed n S (fun i=>A i=false/\Mon n c S A i):=by
 intro Z hZ hcl k hk;have hdec:=Classical.propDecidable
 have e1:sumQ (fun i=>if Z i then y i else 0) n=sumQ (fun i=>sumQ (fun j=>if Z j then y j*S j i else 0) n) n:=by
  rw [sumQ_swap (fun i j=>if Z j then y j*S j i else 0) n n];refine sumQ_congr n (fun j hj=>?_);by_cases hz:Z j
  ·simp only [if_pos hz];rw [sumQ_mul,(hcl j hz).1];grind
  ·simp only [if_neg hz];rw [sumQ_zero]
 have e2:sumQ (fun i=>sumQ (fun j=>if Z j then y j*S j i else 0) n) n=sumQ (fun i=>if Z i then sumQ (fun j=>if Z j then y j*S j i else 0) n else 0) n:=
  sumQ_congr n (fun i hi=>by
   by_cases hz:Z i
   ·simp only [if_pos hz]
   ·simp only [if_neg hz]
    exact sumQ_eq_zero n (fun j hj=>by
     by_cases hz2:Z j
     ·simp only [if_pos hz2];rw [(hcl j hz2).2 i hi hz];grind
     ·simp only [if_neg hz2]))
 have hle:∀ i,i<n->sumQ (fun j=>if Z j then y j*S j i else 0) n<=sumQ (fun j=>y j*S j i) n:=fun i hi=>sumQ_le n (fun j hj=>by
  by_cases hz:Z j
  ·simp only [if_pos hz];exact Rat.le_refl
  ·simp only [if_neg hz];exact Rat.mul_nonneg (hy.pos j hj) (hm.mq.sh.pos j i))
 have hfg:=sumQ_le_eq n (f:=fun i=>if Z i then sumQ (fun j=>if Z j then y j*S j i else 0) n else 0) (g:=fun i=>if Z i then y i else 0) (fun i hi=>by
  by_cases hz:Z i
  ·simp only [if_pos hz];have h1:=hle i hi;have h2:=hy.no i hi (hZ i hz).2.1;have h3:=hm.mq.c0 i hi;unfold hasP at h2;grind
  ·simp only [if_neg hz];exact Rat.le_refl) (by rw [e1,e2];exact Rat.le_refl)
 have hz0:∀ i,Z i->c i=0/\∀ j,j<n->¬ Z j->y j*S j i=0:=fun i hz=>by
  have hi:=(hZ i hz).1;have h1:=hfg i hi;simp only [if_pos hz] at h1;have h2:=hy.no i hi (hZ i hz).2.1;have h3:=hm.mq.c0 i hi;have h4:=hle i hi;unfold hasP at h2;refine⟨by grind,fun j hj hnz=>?_⟩
  have h5:=sumQ_le_eq n (f:=fun j=>if Z j then y j*S j i else 0) (g:=fun j=>y j*S j i) (fun j hj=>by
   by_cases hz:Z j
   ·simp only [if_pos hz];exact Rat.le_refl
   ·simp only [if_neg hz];exact Rat.mul_nonneg (hy.pos j hj) (hm.mq.sh.pos j i)) (by grind) j hj
  simp only [if_neg hnz] at h5;exact h5.symm
 have:=(hZ k hk).2.2 (fun i=>Mon n c S A i/\¬ Z i) (fun i hi hc=>⟨Mon.cash hi hc,fun hz=>by rw [(hz0 i hz).1] at hc;exact absurd hc Rat.lt_irrefl⟩)
  (fun i j hi hj h hs=>⟨Mon.step hi hj (h.imp id (fun q=>q.1)) hs,fun hz=>by
   have hnz:¬ Z i:=fun hzi=>by
    rcases h with h | h
    ·have:=(hZ i hzi).2.1;rw [h] at this;cases this
    ·exact h.2 hzi
   have h1:=(hz0 j hz).2 i hi hnz;have h2:=sup_pos hm hy hi (h.imp id (fun q=>q.1)) hs;have h3:=Rat.mul_pos h2 hs;rw [h1] at h3;exact absurd h3 Rat.lt_irrefl⟩)
 exact this.2 hk
structure Face (n:Nat) (c T:Nat->Rat) (S:Nat->Nat->Rat) (A:Nat->Bool) (x:Nat->Rat):Prop where
 on:∀ i,i<n->A i=true->x i=T i
 part:∀ i,i<n->A i=false->Mon n c S A i->x i=hasP n c S x i
 none:∀ i,i<n->A i=false->¬ Mon n c S A i->x i=0
theorem face_ex (hm:MktQ n c T S) (hF:NoClosed n S (fun i=>A i=false/\Mon n c S A i)):∃ x,Face n c T S A x:=by
 obtain⟨P,hP⟩:∃ P:Nat->Bool,∀ i,P i=true↔(A i=false/\Mon n c S A i):=⟨fun i=>@decide _ (Classical.propDecidable (A i=false/\Mon n c S A i)),fun i=>@decide_eq_true_iff _ (Classical.propDecidable _)⟩;have hF':NoClosed n S (fun i=>P i=true):=fun Z hZ hcl=>hF Z (fun i hz=>⟨(hZ i hz).1,(hP i).1 (hZ i hz).2⟩) hcl
 have hm':MktQ n c (fun i=>if A i=true then T i else 0) S:=⟨hm.sh,hm.c0,fun i hi=>by
  by_cases e:A i=true
  ·simp only [if_pos e];exact hm.t0 i hi
  ·simp only [if_neg e];exact Rat.le_refl⟩
 have hmm:=solA_mm hm' P hF';have hne:∀ k,k<rankF P n->triQ (solA n c (fun i=>if A i=true then T i else 0) S P) k k k≠0:=fun k hk e=>by have:=(hmm.tri k (Nat.le_of_lt hk)).pivot hk;rw [e] at this;exact absurd this Rat.lt_irrefl
 obtain⟨z,hz⟩:=tri_solution (rankF P n) (triQ (solA n c (fun i=>if A i=true then T i else 0) S P) (rankF P n)) (fun i hi=>by
  have h1:=triQ_row (solA n c (fun i=>if A i=true then T i else 0) S P) i i (rankF P n - i) i jl;rw [show i+(rankF P n - i)=rankF P n by omega] at h1;rw [h1];exact hne i hi)
 have hs:=sol_of hm' P hF' z (fun i=>if P i then z (rankF P i) else (if A i=true then T i else 0)) hz (fun i _=>rfl);generalize (fun i=>if P i then z (rankF P i) else (if A i=true then T i else 0))=x at hs;refine⟨x,fun i hi hA=>?_,fun i hi hA hM=>hs.on i hi ((hP i).2 ⟨hA,hM⟩),fun i hi hA hM=>?_⟩
 ·have:P i=false:=by
   cases hp:P i
   ·rfl
   ·have:=((hP i).1 hp).1;rw [hA] at this;cases this
  rw [hs.no i hi this,if_pos hA]
 ·have:P i=false:=by
   cases hp:P i
   ·rfl
   ·exact absurd ((hP i).1 hp).2 hM
  rw [hs.no i hi this,if_neg (by rw [hA];decide)]
theorem face_le (hm:MktQ n c T S) (hF:NoClosed n S (fun i=>A i=false/\Mon n c S A i)) (hx:Face n c T S A x) (hy:Sup n c T S A y):∀ i,i<n->x i<=y i:=by
 have:=below_zero hm.sh hF (fun i=>x i - y i) (fun i hi hn=>by
  show x i - y i<=0;by_cases e:A i=true
  ·have h1:=hx.on i hi e;have h2:=hy.on i hi e;grind
  ·have e':A i=false:=by simpa using e
   have h1:=hx.none i hi e' (fun q=>hn ⟨e',q⟩);have h2:=hy.pos i hi;grind) (fun i hi hf=>by
  rw [<-hasP_sub n c S x y i];have h1:=hx.part i hi hf.1 hf.2;have h2:=hy.no i hi hf.1;show x i - y i<=_;grind)
 intro i hi;have h1:=this i hi;grind
theorem face_nonneg (hm:MktQ n c T S) (hF:NoClosed n S (fun i=>A i=false/\Mon n c S A i)) (hx:Face n c T S A x):∀ i,i<n->0<=x i:=by
 have:=below_zero hm.sh hF (fun i=>- x i) (fun i hi hn=>by
  show - x i<=0;by_cases e:A i=true
  ·have h1:=hx.on i hi e;have h2:=hm.t0 i hi;grind
  ·have e':A i=false:=by simpa using e
   have h1:=hx.none i hi e' (fun q=>hn ⟨e',q⟩);grind) (fun i hi hf=>by
  have e2:sumQ (fun j=>- x j*S j i) n = - sumQ (fun j=>x j*S j i) n:=by
   have:=sumQ_mul (-1) (fun j=>x j*S j i) n;have e3:sumQ (fun j=>- x j*S j i) n=sumQ (fun j=>(-1)*(x j*S j i)) n:=sumQ_congr n (fun i _=>by grind);rw [e3,this];grind
  show - x i<=sumQ (fun j=>- x j*S j i) n;rw [e2];have h1:=hx.part i hi hf.1 hf.2;unfold hasP at h1;have:=hm.c0 i hi;grind)
 intro i hi;have h1:=this i hi;grind
theorem face_none (hm:MktS n c T S) (hx:Face n c T S A x) {i:Nat} (hi:i<n) (hM:¬ Mon n c S A i):hasP n c S x i=0:=by
 have hc:c i=0:=by
  have h1:=hm.mq.c0 i hi;by_cases e:c i=0
  ·exact e
  ·exact absurd (Mon.cash hi (by grind)) hM
 unfold hasP
 rw [hc,sumQ_eq_zero n (fun j hj=>by
  have h1:=hm.mq.sh.pos j i;by_cases e:S j i=0
  ·rw [e];grind
  ·have hp:0<S j i:=by grind
   have hA:A j=false:=by
    cases hA:A j
    ·rfl
    ·exact absurd (Mon.step hj hi (.inl hA) hp) hM
   rw [hx.none j hj hA (fun q=>hM (Mon.step hj hi (.inr q) hp))];grind)]
 grind
structure Pre (n:Nat) (c T:Nat->Rat) (S:Nat->Nat->Rat) (y:Nat->Rat):Prop where
 pos:∀ i,i<n->0<=y i
 le:∀ i,i<n->T i<=y i\/hasP n c S y i<=y i
theorem ClrQ.pre (h:ClrQ n c T S y):Pre n c T S y:=⟨h.pos,fun i hi=>by
 rcases h.eq i hi with e | e
 ·exact .inl (by rw [e];exact Rat.le_refl)
 ·exact .inr (by rw [<-e];exact Rat.le_refl)⟩
def fulB (n:Nat) (c T:Nat->Rat) (S:Nat->Nat->Rat) (y:Nat->Rat) (i:Nat):Bool:=decide (i<n) && decide (T i<=hasP n c S y i)
theorem fulB_iff {i:Nat} (hi:i<n):fulB n c T S y i=true↔T i<=hasP n c S y i:=by unfold fulB;simp [hi]
theorem Pre.sup (h:Pre n c T S y):Sup n c T S (fulB n c T S y) y:=⟨h.pos,fun i hi hA=>by
 have h1:=(fulB_iff hi).1 hA;rcases h.le i hi with e | e
 ·exact e
 ·exact Rat.le_trans h1 e,fun i hi hA=>by
 rcases h.le i hi with e | e
 ·have h1:¬ T i<=hasP n c S y i:=fun q=>by rw [(fulB_iff hi).2 q] at hA;cases hA
  grind
 ·exact e⟩
theorem Pre.min (hm:MktQ n c T S) (hx:Pre n c T S x) (hy:Pre n c T S y):Pre n c T S (fun i=>if x i<=y i then x i else y i):=by
 have h1:∀ i,(if x i<=y i then x i else y i)<=x i:=fun i=>by split <;> grind
 have h2:∀ i,(if x i<=y i then x i else y i)<=y i:=fun i=>by split <;> grind
 refine⟨fun i hi=>?_,fun i hi=>?_⟩
 ·have a:=hx.pos i hi;have b:=hy.pos i hi;show 0<=(if x i<=y i then x i else y i);split <;> assumption
 ·have a:=hasP_mono (c:=c) hm (fun j _=>h1 j) i;have b:=hasP_mono (c:=c) hm (fun j _=>h2 j) i;show T i<=(if x i<=y i then x i else y i)\/hasP n c S (fun i=>if x i<=y i then x i else y i) i<=(if x i<=y i then x i else y i);generalize hasP n c S (fun i=>if x i<=y i then x i else y i) i=H at *
  split
  ·exact (hx.le i hi).imp id (fun q=>Rat.le_trans a q)
  ·exact (hy.le i hi).imp id (fun q=>Rat.le_trans b q)
structure Bas (n:Nat) (c T:Nat->Rat) (S:Nat->Nat->Rat) (x:Nat->Rat):Prop where
 nc:NoClosed n S (fun i=>fulB n c T S x i=false/\Mon n c S (fulB n c T S x) i)
 face:Face n c T S (fulB n c T S x) x
 clr:ClrQ n c T S x
theorem rankF_lt {F G:Nat->Bool} : ∀ n,(∀ i,i<n->F i=true->G i=true)->(∃ i,i<n/\F i≠G i)->rankF F n<rankF G n
 | 0,_,h=>by obtain⟨i,hi,_⟩:=h;omega
 | n+1,hs,h=>by
  rw [rankF_succ,rankF_succ]
  have hle:∀ k,k<=n->rankF F k<=rankF G k:=by
   intro k
   induction k with
   | zero=>intro _;exact Nat.le_refl _
   | succ k ih=>
    intro hk;have:=ih (by omega);rw [rankF_succ,rankF_succ];have h3:=hs k (by omega);cases hF:F k <;> cases hG:G k <;> simp <;> first | omega | (rw [hF,hG] at h3;simp at h3)
  have h1:=hle n jl;have h3:=hs n (by omega);by_cases e:F n=G n
  ·obtain⟨i,hi,hne⟩:=h
   have hin:i<n:=by
    by_cases q:i=n
    ·subst q;exact absurd e hne
    ·omega
   have:=rankF_lt n (fun i hi=>hs i (by omega)) ⟨i,hin,hne⟩;rw [e];omega
  ·cases hF:F n <;> cases hG:G n
   ·rw [hF,hG] at e;exact absurd rfl e
   ·simp;omega
   ·rw [hF,hG] at h3;simp at h3
   ·rw [hF,hG] at e;exact absurd rfl e
theorem fulB_mono (hm:MktQ n c T S) (h:∀ j,j<n->x j<=y j) (i:Nat) (hi:i<n) (hx:fulB n c T S x i=true):fulB n c T S y i=true:=
 (fulB_iff hi).2 (Rat.le_trans ((fulB_iff hi).1 hx) (hasP_mono hm h i))
theorem descend (hm:MktS n c T S):∀ (k:Nat) (y:Nat->Rat),Pre n c T S y->rankF (fulB n c T S y) n<=k->∃ x,Bas n c T S x/\∀ i,i<n->x i<=y i:=by
 intro k
 induction k using Nat.strongRecOn with
 | ind k ih=>
  intro y hy hk;have hsu:=hy.sup;have hnc:=sup_nc hm hsu;obtain⟨x,hx⟩:=face_ex hm.mq hnc;have hle:=face_le hm.mq hnc hx hsu;have h0:=face_nonneg hm.mq hnc hx;by_cases e:∀ i,i<n->fulB n c T S x i=fulB n c T S y i
  ·have eq:fulB n c T S x=fulB n c T S y:=by
    funext i;by_cases hi:i<n
    ·exact e i hi
    ·unfold fulB;simp [hi]
   refine⟨x,⟨by rw [eq];exact hnc,by rw [eq];exact hx,h0,fun i hi=>?_,fun i hi=>?_,fun i hi=>?_⟩,hle⟩
   ·by_cases hA:fulB n c T S y i=true
    ·rw [hx.on i hi hA];exact Rat.le_refl
    ·have hA':fulB n c T S y i=false:=by simpa using hA
     by_cases hM:Mon n c S (fulB n c T S y) i
     ·rw [hx.part i hi hA' hM];rw [<-eq] at hA;have h1:¬ T i<=hasP n c S x i:=fun q=>hA ((fulB_iff hi).2 q)
      grind
     ·rw [hx.none i hi hA' hM];exact hm.mq.t0 i hi
   ·by_cases hA:fulB n c T S y i=true
    ·rw [hx.on i hi hA];rw [<-eq] at hA;exact (fulB_iff hi).1 hA
    ·have hA':fulB n c T S y i=false:=by simpa using hA
     by_cases hM:Mon n c S (fulB n c T S y) i
     ·rw [<-hx.part i hi hA' hM];exact Rat.le_refl
     ·rw [hx.none i hi hA' hM,face_none hm hx hi hM];exact Rat.le_refl
   ·by_cases hA:fulB n c T S y i=true
    ·exact .inl (hx.on i hi hA)
    ·have hA':fulB n c T S y i=false:=by simpa using hA
     by_cases hM:Mon n c S (fulB n c T S y) i
     ·exact .inr (hx.part i hi hA' hM)
     ·exact .inr (by rw [hx.none i hi hA' hM,face_none hm hx hi hM])
  ·have e':∃ i,i<n/\fulB n c T S x i≠fulB n c T S y i:=Classical.byContradiction (fun q=>e (fun i hi=>Classical.byContradiction (fun r=>q ⟨i,hi,r⟩)));have hlt:=rankF_lt n (fulB_mono hm.mq hle) e'
   have hpx:Pre n c T S x:=⟨h0,fun i hi=>by
    by_cases hA:fulB n c T S y i=true
    ·exact .inl (by rw [hx.on i hi hA];exact Rat.le_refl)
    ·have hA':fulB n c T S y i=false:=by simpa using hA
     by_cases hM:Mon n c S (fulB n c T S y) i
     ·exact .inr (by rw [<-hx.part i hi hA' hM];exact Rat.le_refl)
     ·exact .inr (by rw [hx.none i hi hA' hM,face_none hm hx hi hM];exact Rat.le_refl)⟩
   obtain⟨z,hz,hzx⟩:=ih (rankF (fulB n c T S x) n) (by omega) x hpx jl;exact⟨z,hz,fun i hi=>Rat.le_trans (hzx i hi) (hle i hi)⟩
theorem least_ex (hm:MktS n c T S):∃ x,Bas n c T S x/\∀ y,Pre n c T S y->∀ i,i<n->x i<=y i:=by
 have hT:Pre n c T S T:=⟨hm.mq.t0,fun i _=>.inl Rat.le_refl⟩
 have hmin:∀ k,(∃ x,Bas n c T S x/\rankF (fulB n c T S x) n=k)->∃ x,Bas n c T S x/\∀ z,Bas n c T S z->rankF (fulB n c T S x) n<=rankF (fulB n c T S z) n:=by
  intro k
  induction k using Nat.strongRecOn with
  | ind k ih=>
   rintro ⟨x,hx,hk⟩;by_cases h:∃ z,Bas n c T S z/\rankF (fulB n c T S z) n<k
   ·obtain⟨z,hz,hlt⟩:=h;exact ih _ hlt ⟨z,hz,rfl⟩
   ·exact⟨x,hx,fun z hz=>Nat.le_of_not_lt (fun q=>h ⟨z,hz,by omega⟩)⟩
 obtain⟨x0,hx0,_⟩:=descend hm _ T hT jl;obtain⟨x,hx,hxm⟩:=hmin _ ⟨x0,hx0,rfl⟩;refine⟨x,hx,fun y hy i hi=>?_⟩;obtain⟨z,hz,hzm⟩:=descend hm _ _ (Pre.min hm.mq hx.clr.pre hy) jl;have hzx:∀ i,i<n->z i<=x i:=fun i hi=>by have:=hzm i hi;revert this;show z i<=(if x i<=y i then x i else y i)->_;split <;> grind
 have hzy:∀ i,i<n->z i<=y i:=fun i hi=>by have:=hzm i hi;revert this;show z i<=(if x i<=y i then x i else y i)->_;split <;> grind
 have hr:=hxm z hz
 have eq:fulB n c T S z=fulB n c T S x:=by
  funext i;by_cases hi:i<n
  ·refine Classical.byContradiction (fun q=>?_);have:=rankF_lt n (fulB_mono hm.mq hzx) ⟨i,hi,q⟩;omega
  ·unfold fulB;simp [hi]
 have hfz:=hz.face;rw [eq] at hfz
 have hsz:Sup n c T S (fulB n c T S x) z:=by
  have:=hz.clr.pre.sup;rw [eq] at this;exact this
 exact Rat.le_trans (face_le hm.mq hx.nc hx.face hsz i hi) (hzy i hi)
end
variable {n:Nat} {cash:Nat->Int} {d:Nat->Nat->Int} {F G:Nat->Bool}
theorem totG_le (i:Nat):totG G n d i=if G i then 0 else totQ n d i:=rfl
theorem mktG_of (hR:Rng n cash d) (hd:∀ i j,0<=d i j):MktQ n (cashQ cash) (totG G n d) (shQ n d):=by
 have hm:=mktQ_of hR hd;exact⟨hm.sh,hm.c0,fun i hi=>by rw [totG_le];split;exact Rat.le_refl;exact hm.t0 i hi⟩
theorem szQ_totG (hR:Rng n cash d) (i:Nat) (hi:i<n):szQ (totG G n d i)<=2:=by rw [totG_le];split;exact szQ_zero;exact szQ_tot hR i hi
theorem szQ_AG (hR:Rng n cash d) (hn:n<=8) (hd:∀ i j,0<=d i j) (F G:Nat->Bool) (i j:Nat) (hi:i<rankF F n) (hj:j<rankF F n+1):szQ (solA n (cashQ cash) (totG G n d) (shQ n d) F i j)<=64:=by
 have f1:=(frL_spec F n i hi).2.1;by_cases h:j<rankF F n
 ·have:=szQ_A hR hn hd F i j hi hj;unfold solA at this ⊢;rw [if_pos h] at this ⊢;exact this
 ·unfold solA;rw [if_neg h];show szQ (cashQ cash ((frL F n).getD i 0)+sumQ (fun l=>(if F l=true then 0 else totG G n d l)*shQ n d l ((frL F n).getD i 0)) n)<=64
  have h1:=szQ_sum (a:=6) (f:=fun l=>(if F l=true then 0 else totG G n d l)*shQ n d l ((frL F n).getD i 0)) n (fun l hl=>by
   have h1:=szQ_mul (if F l=true then 0 else totG G n d l) (shQ n d l ((frL F n).getD i 0));have h2:=szQ_sh hR hd l _ hl f1;have h3:szQ (if F l=true then 0 else totG G n d l)<=2:=by split;exact szQ_zero;exact szQ_totG hR l hl
   omega)
  have h2:=szQ_add (cashQ cash ((frL F n).getD i 0)) (sumQ (fun l=>(if F l=true then 0 else totG G n d l)*shQ n d l ((frL F n).getD i 0)) n);have h3:szQ (cashQ cash ((frL F n).getD i 0))<=2:=szQ_small _ (by have:=hR.csh _ f1;omega);have h4:n*(6+1)<=56:=by omega
  omega
def payG (n:Nat) (cash:Nat->Int) (d:Nat->Nat->Int) (F G:Nat->Bool) (r j:Nat):Int:=
 if j<n then payI n cash d F r j else (if F r then cash r else if G r then 0 else sumF (d r) n)
theorem payG_sum (z:Nat->Rat) (r:Nat):sumQ (fun j=>(payG n cash d F G r j:Rat)*z j) n=sumQ (fun j=>(payI n cash d F r j:Rat)*z j) n:=
 sumQ_congr n (fun j hj=>by unfold payG;rw [if_pos hj])
theorem payG_sys (hR:Rng n cash d) (hn:n<=8) (hd:∀ i j,0<=d i j) (hF:NoClosed n (shQ n d) (fun i=>F i=true)) {p:Nat->Rat} (hp:SolF n (cashQ cash) (totG G n d) (shQ n d) F p) :
  SysI n n (fun _=>False) (payG n cash d F G) 200000 (fun j=>p j / ((tI n d j:Int):Rat)):=by
 obtain⟨_,p0,h0⟩:=rdy_of hR hn hd hF;have hs:=payI_sys hR hn hd hF h0.sol
 have hq:∀ j,((tI n d j:Int):Rat)*(p j / ((tI n d j:Int):Rat))=p j:=fun j=>by
  have h1:=tI_ne (n:=n) hd j;have h2:=Rat.mul_inv_cancel _ h1;rw [Rat.div_def];grind
 refine⟨fun r j hr hj=>?_,fun _ _ _ _ h=>h.elim,fun r hr=>?_,fun z h1 hz=>hs.ker z h1 (fun r hr=>by rw [<-payG_sum (G:=G)];exact hz r hr)⟩
 ·unfold payG;by_cases e:j<n
  ·rw [if_pos e];exact hs.bnd r j hr hj
  ·rw [if_neg e];have t1:=hR.tot r hr;have c1:=hR.csh r hr;split
   ·omega
   ·split <;> omega
 ·rw [payG_sum,payI_sum hd F _ r hr,hq r];have e:sumQ (fun j=>((tI n d j:Int):Rat)*(p j / ((tI n d j:Int):Rat))*shQ n d j r) n=sumQ (fun j=>p j*shQ n d j r) n:=sumQ_congr n (fun j _=>by rw [hq j]);rw [e];unfold payG;rw [if_neg (Nat.lt_irrefl _)];by_cases hFr:F r=true
  ·have h1:=hp.on r hr hFr;unfold hasP cashQ at h1;simp only [hFr,if_true];grind
  ·have hf:F r=false:=by simpa using hFr
   have h1:=hp.no r hr hf;simp only [hf,Bool.false_eq_true,if_false];rw [h1,totG_le];by_cases hG:G r=true
   ·simp [hG];grind
   ·simp only [hG];unfold totQ;grind
theorem pay_smallG (hR:Rng n cash d) (hn:n<=8) (hd:∀ i j,0<=d i j) (hF:NoClosed n (shQ n d) (fun i=>F i=true)) {p:Nat->Rat} (hp:SolF n (cashQ cash) (totG G n d) (shQ n d) F p) (i:Nat) (hi:i<n) :
  szQ (p i)<=200/\(p i).num.natAbs<=100000*bdI 200000 8/\(p i).den<=100000*bdI 200000 8:=by
 obtain⟨P,Q,h1,h2,h3,h4⟩:=(payG_sys hR hn hd hF hp).bound i hi;have hb:=bdI_mono 200000 n 8 hn;have t1:=hR.tot i hi;have et:(tI n d i).natAbs<=100000:=by have:=tI_pos (n:=n) hd i;unfold tI at *;split <;> split at this <;> omega
 have e:(Q:Rat)*p i=((tI n d i*P:Int):Rat):=by
  have h5:=tI_ne (n:=n) hd i;have h6:=Rat.mul_inv_cancel _ h5;rw [Rat.intCast_mul,<-h4,Rat.div_def];grind
 obtain⟨k1,k2⟩:=lowest_le h1 e
 have m1:(tI n d i*P).natAbs<=100000*bdI 200000 8:=by
  rw [Int.natAbs_mul];exact Nat.mul_le_mul et (Nat.le_trans h2 hb)
 have m2:Q.natAbs<=100000*bdI 200000 8:=Nat.le_trans (Nat.le_trans h3 hb) (Nat.le_mul_of_pos_left _ (by decide));have a1:=Nat.le_trans k1 m1;have a2:=Nat.le_trans k2 m2;exact⟨szQ_le ((nl_le _ _).2 (Nat.lt_of_le_of_lt a1 bd_num)) ((nl_le _ _).2 (Nat.lt_of_le_of_lt a2 bd_num)),a1,a2⟩
structure RdyG (n:Nat) (cash:Nat->Int) (d:Nat->Nat->Int) (F G:Nat->Bool) (x p:Nat->Rat):Prop where
 piv:∀ c,c<rankF F n->0<triQ (solA n (cashQ cash) (totG G n d) (shQ n d) F) c c c
 siz:∀ c,c<=rankF F n->∀ i j,i<rankF F n->j<rankF F n+1->szQ (triQ (solA n (cashQ cash) (totG G n d) (shQ n d) F) c i j)<=25000000
 res:∀ i,i<rankF F n->resid (rankF F n) i (triQ (solA n (cashQ cash) (totG G n d) (shQ n d) F) (rankF F n)) x i=0
 small:∀ i,i<rankF F n->szQ (x i)<=200
 pay:∀ i,p i=if F i then x (rankF F i) else totG G n d i
 sol:SolF n (cashQ cash) (totG G n d) (shQ n d) F p
theorem rdyG_of (hR:Rng n cash d) (hn:n<=8) (hd:∀ i j,0<=d i j) (G:Nat->Bool) (hF:NoClosed n (shQ n d) (fun i=>F i=true)):∃ x p,RdyG n cash d F G x p:=by
 have hm:=mktG_of (G:=G) hR hd;have hmm:=solA_mm hm F hF;have hpv:∀ c,c<rankF F n->0<triQ (solA n (cashQ cash) (totG G n d) (shQ n d) F) c c c:=fun c hc=>(hmm.tri c (Nat.le_of_lt hc)).pivot hc
 have hne:∀ c,c<rankF F n->triQ (solA n (cashQ cash) (totG G n d) (shQ n d) F) c c c≠0:=fun c hc e=>by have:=hpv c hc;rw [e] at this;exact absurd this Rat.lt_irrefl
 have hkn:=rankF_le F n
 have hsz:∀ c,c<=rankF F n->∀ i j,i<rankF F n->j<rankF F n+1->szQ (triQ (solA n (cashQ cash) (totG G n d) (shQ n d) F) c i j)<=25000000:=fun c hc i j hi hj=>by
  have h1:=szQ_tri (K:=64) (n:=rankF F n) (m:=rankF F n+1) (by omega) (by omega) (fun i j hi hj=>szQ_AG hR hn hd F G i j hi hj) hne c hc i j hi hj;have h2:5 ^ c<=5 ^ 8:=Nat.pow_le_pow_right (by omega) (by omega);have h3:5 ^ c*64<=5 ^ 8*64:=Nat.mul_le_mul_right _ h2;have h4:(5:Nat) ^ 8*64=25000000:=by decide
  omega
 obtain⟨x,hx⟩:=tri_solution (rankF F n) (triQ (solA n (cashQ cash) (totG G n d) (shQ n d) F) (rankF F n)) (fun i hi=>by
  have h1:=triQ_row (solA n (cashQ cash) (totG G n d) (shQ n d) F) i i (rankF F n - i) i jl;rw [show i+(rankF F n - i)=rankF F n by omega] at h1;rw [h1];exact hne i hi)
 have hs:=sol_of hm F hF x (fun i=>if F i then x (rankF F i) else totG G n d i) hx (fun i _=>rfl);refine⟨x,fun i=>if F i then x (rankF F i) else totG G n d i,hpv,hsz,hx,fun i hi=>?_,fun i=>rfl,hs⟩;have h1:=frL_spec F n i hi;have h2:=(pay_smallG hR hn hd hF hs ((frL F n).getD i 0) h1.2.1).1;simp only [h1.1,h1.2.2,if_true] at h2;exact h2
open Go.RowKit
attribute [local go_sem ↓] Go.wp_at_zero Go.wp_at_succ
def MonI (n:Nat) (cash:Nat->Int) (d:Nat->Nat->Int) (A:Nat->Bool) (k:Nat):Prop:=
 ∀ M:Nat->Prop,(∀ i,i<n->0<cash i->M i)->(∀ i j,i<n->j<n->(A i=true\/M i)->0<d i j->M j)->M k
theorem MonI.step {n:Nat} {cash:Nat->Int} {d:Nat->Nat->Int} {A:Nat->Bool} {i j:Nat} (hi:i<n) (hj:j<n) (h:A i=true\/MonI n cash d A i) (hs:0<d i j):MonI n cash d A j:=fun M h1 h2=>h2 i j hi hj (h.imp id (fun q=>q M h1 h2)) hs
structure MRel (n:Nat) (cash:Nat->Int) (d:Nat->Nat->Int) (A M0 M:Nat->Bool) (b:Bool) (i j:Nat):Prop where
 snd:∀ k,k<n->M k=true->MonI n cash d A k
 base:∀ k,k<n->0<cash k->M k=true
 yes:b=true->rankF M0 n<rankF M n
 no:b=false->M=M0/\∀ a c,a<n->c<n->(a<i\/(a=i/\c<j))->(A a=true\/M a=true)->0<d a c->M c=true
structure MSt (n:Nat) (cash:Nat->Int) (d:Nat->Nat->Int) (A M:Nat->Bool) (b:Bool):Prop where
 snd:∀ k,k<n->M k=true->MonI n cash d A k
 base:∀ k,k<n->0<cash k->M k=true
 fin:b=false->∀ a c,a<n->c<n->(A a=true\/M a=true)->0<d a c->M c=true
section
variable {n:Nat} {cash:Nat->Int} {d:Nat->Nat->Int} {A M0 M:Nat->Bool} {b:Bool} {i j:Nat}
theorem MSt.start (h:∀ k,k<n->M k=decide (0<cash k)):MSt n cash d A M true:=
 ⟨fun k hk hM=>fun N h1 _=>h1 k hk (by rw [h k hk] at hM;simpa using hM),fun k hk hc=>by rw [h k hk];simpa using hc,fun e=>nomatch e⟩
theorem MSt.rel (h:MSt n cash d A M b):MRel n cash d A M M false 0 0:=⟨h.snd,h.base,(fun e=>nomatch e),fun _=>⟨rfl,fun a c _ _ h=>by omega⟩⟩
theorem MRel.row (h:MRel n cash d A M0 M b i n):MRel n cash d A M0 M b (i+1) 0:=⟨h.snd,h.base,h.yes,fun e=>⟨(h.no e).1,fun a c ha hc q=>(h.no e).2 a c ha hc (by omega)⟩⟩
theorem MRel.skip (h:MRel n cash d A M0 M b i j) (hn:¬ (0<d i j/\(A i=true\/M i=true)/\M j=false)):MRel n cash d A M0 M b i (j+1):=
 ⟨h.snd,h.base,h.yes,fun e=>⟨(h.no e).1,fun a c ha hc q hA hd=>by
  by_cases g:a=i/\c=j
  ·obtain⟨rfl,rfl⟩:=g;cases hM:M c
   ·exact absurd ⟨hd,hA,hM⟩ hn
   ·rfl
  ·exact (h.no e).2 a c ha hc (by omega) hA hd⟩⟩
theorem rankF_upd {G:Nat->Bool} {j:Nat} (hG:G j=false):∀ n,j<n->rankF (fun k=>if k=j then true else G k) n=rankF G n+1
 | 0,h=>by omega
 | n+1,h=>by
  rw [rankF_succ,rankF_succ];by_cases e:n=j
  ·subst e
   have:rankF (fun k=>if k=n then true else G k) n=rankF G n:=by
    unfold rankF;rw [frL_congr n (fun i hi=>if_neg (by omega))]
   rw [this,hG];simp
  ·rw [rankF_upd hG n (by omega),if_neg e];omega
theorem MRel.set (h:MRel n cash d A M0 M b i j) (hi:i<n) (hj:j<n) (h1:0<d i j) (h2:A i=true\/M i=true) (h3:M j=false):MRel n cash d A M0 (fun k=>if k=j then true else M k) true i (j+1):=
 ⟨fun k hk hM=>by
  by_cases e:k=j
  ·subst e;exact MonI.step hi hk (h2.imp id (h.snd i hi)) h1
  ·rw [if_neg e] at hM;exact h.snd k hk hM,fun k hk hc=>by
  by_cases e:k=j
  ·rw [if_pos e]
  ·rw [if_neg e];exact h.base k hk hc,fun _=>by
  rw [rankF_upd h3 n hj];cases hb:b
  ·rw [(h.no hb).1];omega
  ·have:=h.yes hb;omega,fun e=>nomatch e⟩
theorem MRel.st (h:MRel n cash d A M0 M b n 0):MSt n cash d A M b:=⟨h.snd,h.base,fun e a c ha hc=>(h.no e).2 a c ha hc (by omega)⟩
theorem MRel.less {g:Nat} (h:MRel n cash d A M0 M b n 0) (hg:2*(n - rankF M0 n)+1<=g):2*(n - rankF M n)+(if b then 1 else 0)<g:=by
 cases hb:b
 ·rw [(h.no hb).1];simp;omega
 ·have h1:=h.yes hb;have h2:=rankF_le M n;simp;omega
theorem MSt.iff (h:MSt n cash d A M false) (k:Nat) (hk:k<n):M k=true↔MonI n cash d A k:=
 ⟨h.snd k hk,fun q=>q (fun i=>i<n->M i=true) (fun i hi hc _=>h.base i hi hc) (fun i j hi hj hA hd _=>h.fin rfl i j hi hj (hA.imp id (fun q=>q hi)) hd) hk⟩
end
set_option maxHeartbeats 8000000 in
set_option maxRecDepth 100000 in
theorem money_any (b n:Nat) (cash:Nat->Int) (d:Nat->Nat->Int) (vc vd vt:Value) (A:Nat->Bool) (fa fc:Nat) (w:World) (hm:IsMkt w b n cash d vc vd vt) (h0:0<n) (hn:n<=8) (hF:Bls w fa n A) :
  Calls Tryz.prog 95 #[.pointer (some ⟨b,0,none⟩),.slice (some ⟨fa,0,none⟩) n fc] w fun e w'=>∃ fb M,e = .returned (.slice (some ⟨fb,0,none⟩) n n)/\w'.rowIs fb 4 n (bF M)/\(∀ k,k<n->(M k=true↔MonI n cash d A k))/\w.heap.size<=fb/\Below w.heap.size w w':=by
 obtain⟨c0,c1,c2,-,⟨ca,cb,co,cc,rfl,hcs⟩,⟨da,db,do_,dc,ra,rd,ro,rc,rfl,hdm⟩,-,hlt⟩:=hm;have HCS:=jj hcs;have HM:=jj hdm;have HF:=jj hF
 have keepS:Hid (∀ w',Below w.heap.size w w'->w'.cell? ⟨b,0,none⟩=some (.int .i64 (n:Nat))/\w'.cell? ⟨b,1,none⟩=some (.slice ca n cc)/\w'.cell? ⟨b,2,none⟩=some (.slice da n dc)):=
  jj (fun w' hb=>⟨bel1 hb c0 hlt,bel1 hb c1 hlt,bel1 hb c2 hlt⟩)
 have hmk:=mkBn n (by omega);have O0:=jj ((World.rowIs_made w (.bool false) n 4).congr (g:=bF (fun j=>decide (j<0) && decide (0<cash j))) (fun i hi=>by unfold bF;simp));have K0:=jj (boxes1 w (.cells (madeCells #[.bool false] n) 4));clear hcs hdm hF c1 c2;go_enter Tryz.func95,Tryz.ntmps95;go_wp2;clear c0 hmk;obtain⟨fb,hfb⟩:∃ fb,fb=w.heap.size:=⟨_,rfl⟩;rw [<-hfb] at O0 ⊢;have HFB:=jj hfb;clear hfb;go_loopw [17] (fun v17 wr=>∃ k:Nat,k<=n/\v17 = .int .i64 (k:Nat)/\Hid (wr.rowIs fb 4 n (bF (fun j=>decide (j<k) && decide (0<cash j))))/\Hid (Below w.heap.size w wr)) (fun v17 _=>n - (intOf v17).toNat)
 case atStart=>exact⟨0,by omega,rfl,O0,K0⟩
 case round=>
  clear O0 K0;obtain⟨k,hk,rfl,OF,KW⟩:=hrel;by_cases h:k<n
  ·have e1:decide ((k:Int)<(n:Int))=true:=by simpa using h
   have e1n:decide (k<n)=true:=by simpa using h
   obtain⟨y0,y1,-⟩:=keepS.out _ KW.out;have ixc:=fun W=>ixI HCS.out k cc h W
   have yc:=(HCS.out.mono KW.out jl).cell k h;simp only [ic] at yc;have ixb:=fun W=>ixB fb n n k h W
   have cf:=OF.out.cell h;have ff:=OF.out.frozen k;simp only [bF] at cf;go_wp2;go_roundw
   case rel=>
    refine⟨k+1,by omega,by go_num,jj ((OF.out.set k _).congr (fun i hi=>?_)),jj (KW.out.setCell (Nat.le_of_eq HFB.out.symm) _)⟩;unfold bF;by_cases e:i=k
    ·subst e;simp
    ·rw [if_neg e];by_cases e2:i<k
     ·simp [e2,show i<k+1 by omega]
     ·simp [e2,show ¬ i<k+1 by omega]
   case measure=>simp [intOf];omega
  ·obtain rfl:n=k:=by omega
   have e1:decide ((n:Int)<(n:Int))=false:=by simp
   have ST0:Hid (MSt n cash d A (fun j=>decide (j<n) && decide (0<cash j)) true):=jj (MSt.start (fun k hk=>by simp [hk]));go_wp2
   go_loopg [7] (2*n+1) (fun g v7 wr=>∃ (M:Nat->Bool) (more:Bool),v7 = .bool more/\2*(n - rankF M n)+(if more then 1 else 0)<=g/\Hid (wr.rowIs fb 4 n (bF M))/\Hid (MSt n cash d A M more)/\Hid (Below w.heap.size w wr))
   case atStart=>exact⟨_,true,rfl,by simp;omega,OF,ST0,KW⟩
   case round=>
    clear OF ST0 KW;obtain⟨M,more,rfl,hgk,OF,ST,KW⟩:=hrel;rcases more with _ | _
    ·go_wp2;go_ret;exact⟨fb,M,rfl,OF.out,fun k hk=>ST.out.iff k hk,Nat.le_of_eq HFB.out.symm,KW.out⟩
    ·have HGK:Hid (2*(n - rankF M n)+1<=gk):=jj (by simpa using hgk);clear hgk;obtain⟨y0,-,y2⟩:=keepS.out _ KW.out;have MR0:=jj ST.out.rel;go_wp2;clear y0 y2;go_loopw [7,37] (fun v7 v37 wr=>∃ i:Nat,i<=n/\v37 = .int .i64 (i:Nat)/\∃ (M1:Nat->Bool) (more:Bool),v7 = .bool more/\Hid (wr.rowIs fb 4 n (bF M1))/\Hid (MRel n cash d A M M1 more i 0)/\Hid (Below w.heap.size w wr)) (fun _ v37 _=>n - (intOf v37).toNat)
     case atStart=>exact⟨0,by omega,rfl,M,false,rfl,OF,MR0,KW⟩
     case round=>
      clear OF MR0 KW ST;obtain⟨i,hi,rfl,M1,more,rfl,OF,MR,KW⟩:=hrel;by_cases h1:i<n
      ·have e2:decide ((i:Int)<(n:Int))=true:=by simpa using h1
       have e2n:decide (i<n)=true:=by simpa using h1
       obtain⟨y0,-,-⟩:=keepS.out _ KW.out;go_wp2;clear y0;go_loopw [7,44] (fun v7 v44 wr=>∃ j:Nat,j<=n/\v44 = .int .i64 (j:Nat)/\∃ (M1:Nat->Bool) (more:Bool),v7 = .bool more/\Hid (wr.rowIs fb 4 n (bF M1))/\Hid (MRel n cash d A M M1 more i j)/\Hid (Below w.heap.size w wr)) (fun _ v44 _=>n - (intOf v44).toNat)
       case atStart=>exact⟨0,by omega,rfl,M1,more,rfl,OF,MR,KW⟩
       case round=>
        clear OF MR KW;obtain⟨j,hj,rfl,M1,more,rfl,OF,MR,KW⟩:=hrel;by_cases h2:j<n
        ·have e3:decide ((j:Int)<(n:Int))=true:=by simpa using h2
         have e3n:decide (j<n)=true:=by simpa using h2
         obtain⟨-,-,y2⟩:=keepS.out _ KW.out;have ixm:=fun W=>ixM HM.out.top i dc h1 W
         have ixr:=fun W=>ixI (HM.out.row i h1) j (rc i) h2 W
         have hM1:=HM.out.mono KW.out jl;have z0:=hM1.top.cell i h1;have z1:=(hM1.row i h1).cell j h2;simp only [ic] at z1;have ixa:=fun W=>ixB fa n fc i h1 W
         have ixi:=fun W=>ixB fb n n i h1 W
         have ixj:=fun W=>ixB fb n n j h2 W
         have ca:=bel1 KW.out (HF.out.cell i h1) HF.out.lt;have ci:=OF.out.cell h1;have cj:=OF.out.cell h2;have ff:=OF.out.frozen j;simp only [bF] at ci cj;clear hM1;rcases hd:decide (0<d i j) with _ | _
         ·go_wp2;go_roundw
          case rel=>exact⟨j+1,by omega,by go_num,M1,more,rfl,OF,jj (MR.out.skip (fun q=>by simp [q.1] at hd)),KW⟩
          case measure=>simp [intOf];omega
         ·rcases hA:A i with _ | _ <;> rcases hMi:M1 i with _ | _ <;> rcases hMj:M1 j with _ | _ <;> rw [hA] at ca <;> rw [hMi] at ci <;> rw [hMj] at cj
          all_goals
           go_wp2;go_roundw
           case rel=>
            first
            | exact⟨j+1,by omega,by go_num,M1,more,rfl,OF,jj (MR.out.skip (fun q=>by simp [hA,hMi,hMj] at q)),KW⟩
            | exact⟨j+1,by omega,by go_num,_,true,rfl,jj ((OF.out.set j _).congr (fun k hk=>by unfold bF;by_cases e:k=j <;> simp [e])),jj (MR.out.set h1 h2 (by simpa using hd) (by simp [hA,hMi]) hMj),jj (KW.out.setCell (Nat.le_of_eq HFB.out.symm) _)⟩
           case measure=>simp [intOf];omega
        ·obtain rfl:n=j:=by omega
         have e3:decide ((n:Int)<(n:Int))=false:=by simp
         go_wp2;go_roundw
         case rel=>exact⟨i+1,by omega,by go_num,M1,more,rfl,OF,jj MR.out.row,KW⟩
         case measure=>simp [intOf];omega
      ·obtain rfl:n=i:=by omega
       have e2:decide ((n:Int)<(n:Int))=false:=by simp
       go_wp2
       go_roundg (2*(n - rankF M1 n)+(if more then 1 else 0))
       case measure=>exact MR.out.less HGK.out
       case rel=>exact⟨M1,more,rfl,Nat.le_refl _,OF,jj MR.out.st,KW⟩
end Go.Proofs.YtgmopcncbpdniaaGreat
