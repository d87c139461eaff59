import Derived.Test.YtgmopcncbpdniaaGreatKShelf
import Derived.Test.YtgmopcncbpdniaaGreatKBase
import Derived.Deep.RegionHeld3
import Derived.Test.YtgmopcncbpdniaaGreatKBig5
import Derived.Deep.LoopGhost
set_option maxHeartbeats 2000000
set_option linter.unusedVariables false
set_option linter.unusedSimpArgs false
namespace Go.Proofs.YtgmopcncbpdniaaGreat
def sumQ (f:Nat->Rat):Nat->Rat
 | 0=>0
 | n+1=>sumQ f n+f n
theorem sumQ_congr {f g:Nat->Rat} : ∀ n,(∀ i,i<n->f i=g i)->sumQ f n=sumQ g n
 | 0,_=>rfl
 | n+1,h=>by simp only [sumQ];rw [sumQ_congr n (fun i hi=>h i (by omega)),h n (by omega)]
theorem sumQ_add (f g:Nat->Rat):∀ n,sumQ (fun i=>f i+g i) n=sumQ f n+sumQ g n
 | 0=>by simp only [sumQ];grind
 | n+1=>by simp only [sumQ];rw [sumQ_add f g n];grind
theorem sumQ_mul (c:Rat) (f:Nat->Rat):∀ n,sumQ (fun i=>c*f i) n=c*sumQ f n
 | 0=>by simp only [sumQ];grind
 | n+1=>by simp only [sumQ];rw [sumQ_mul c f n];grind
theorem sumQ_sub (f g:Nat->Rat):∀ n,sumQ (fun i=>f i - g i) n=sumQ f n - sumQ g n
 | 0=>by simp only [sumQ];grind
 | n+1=>by simp only [sumQ];rw [sumQ_sub f g n];grind
theorem sumQ_zero:∀ n,sumQ (fun _=>0) n=0
 | 0=>rfl
 | n+1=>by simp only [sumQ];rw [sumQ_zero n];grind
theorem sumQ_eq_zero {f:Nat->Rat} (n:Nat) (h:∀ i,i<n->f i=0):sumQ f n=0:=(sumQ_congr n h).trans (sumQ_zero n)
theorem sumQ_le {f g:Nat->Rat} : ∀ n,(∀ i,i<n->f i<=g i)->sumQ f n<=sumQ g n
 | 0,_=>by simp only [sumQ];grind
 | n+1,h=>by
  have h1:=sumQ_le n (fun i hi=>h i (by omega));have h2:=h n (by omega);simp only [sumQ];grind
theorem sumQ_nonneg {f:Nat->Rat} (n:Nat) (h:∀ i,i<n->0<=f i):0<=sumQ f n:=by
 have:=sumQ_le (f:=fun _=>0) (g:=f) n h
 rwa [sumQ_zero] at this
theorem sumQ_le_eq {f g:Nat->Rat} : ∀ n,(∀ i,i<n->f i<=g i)->sumQ g n<=sumQ f n->∀ i,i<n->f i=g i
 | 0,_,_=>fun i hi=>by omega
 | n+1,h,h2=>fun i hi=>by
  have h1:=sumQ_le n (fun i hi=>h i (by omega));have h3:=h n (by omega);simp only [sumQ] at h2;by_cases e:i=n
  ·subst e;grind
  ·exact sumQ_le_eq n (fun i hi=>h i (by omega)) (by grind) i (by omega)
theorem sumQ_swap (f:Nat->Nat->Rat) (m:Nat):∀ n,sumQ (fun i=>sumQ (fun j=>f i j) m) n=sumQ (fun j=>sumQ (fun i=>f i j) n) m
 | 0=>by simp only [sumQ];rw [sumQ_zero]
 | n+1=>by
  simp only [sumQ];rw [sumQ_swap f m n,sumQ_add]
theorem sumQ_one (f:Nat->Rat) (k:Nat):∀ n,k<n->(∀ i,i<n->i≠k->f i=0)->sumQ f n=f k
 | 0,h,_=>by omega
 | n+1,h,hz=>by
  simp only [sumQ];by_cases e:k=n
  ·subst e;rw [sumQ_eq_zero k (fun i hi=>hz i (by omega) (by omega))];grind
  ·rw [sumQ_one f k n (by omega) (fun i hi=>hz i (by omega)),hz n (by omega) (by omega)];grind
theorem sumQ_pos {f:Nat->Rat} (n k:Nat) (hk:k<n) (h:∀ i,i<n->0<=f i) (hp:0<f k):0<sumQ f n:=by
 have h1:sumQ (fun i=>if i=k then f k else 0) n<=sumQ f n:=sumQ_le n (fun i hi=>by
  by_cases e:i=k
  ·subst e;simp
  ·simp [e];exact h i hi)
 rw [sumQ_one _ k n hk (fun i _ hi=>by simp [hi])] at h1;simp at h1;grind
structure Shr (n:Nat) (S:Nat->Nat->Rat):Prop where
 pos:∀ j i,0<=S j i
 one:∀ j,j<n->sumQ (fun i=>S j i) n<=1
def NoClosed (n:Nat) (S:Nat->Nat->Rat) (F:Nat->Prop):Prop:=
 ∀ Z:Nat->Prop,(∀ i,Z i->i<n/\F i)->(∀ j,Z j->sumQ (fun i=>S j i) n=1/\∀ i,i<n->¬ Z i->S j i=0)->∀ i,¬ Z i
theorem kernel {n:Nat} {S:Nat->Nat->Rat} {F:Nat->Prop} (hS:Shr n S) (hF:NoClosed n S F) (u:Nat->Rat) (h0:∀ i,0<=u i) (hs:∀ i,i<n->¬ F i->u i=0)
  (hle:∀ i,i<n->F i->u i<=sumQ (fun j=>u j*S j i) n):∀ i,i<n->u i=0:=by
 have hr:∀ i,i<n->u i<=sumQ (fun j=>u j*S j i) n:=fun i hi=>by
  by_cases h:F i
  ·exact hle i hi h
  ·rw [hs i hi h];exact sumQ_nonneg n (fun j _=>Rat.mul_nonneg (h0 j) (hS.pos j i))
 have h1:sumQ (fun i=>sumQ (fun j=>u j*S j i) n) n=sumQ (fun j=>u j*sumQ (fun i=>S j i) n) n:=by
  rw [sumQ_swap (fun i j=>u j*S j i)];exact sumQ_congr n (fun j _=>sumQ_mul _ _ _)
 have h2:∀ j,j<n->u j*sumQ (fun i=>S j i) n<=u j:=fun j hj=>by
  have:=Rat.mul_le_mul_of_nonneg_left (hS.one j hj) (h0 j);grind
 have h3:=sumQ_le n h2;have h4:=sumQ_le n hr;have h5:=sumQ_le_eq n hr (by grind);have h6:=sumQ_le_eq n h2 (by grind)
 have:=hF (fun i=>i<n/\u i≠0) (fun i hi=>⟨hi.1,Classical.byContradiction (fun h=>hi.2 (hs i hi.1 h))⟩) (fun j hj=>by
  refine⟨?_,fun i hi hn=>?_⟩
  ·have:=h6 j hj.1;have e:=hj.2;grind
  ·have hu:u i=0:=Classical.byContradiction (fun h=>hn ⟨hi,h⟩);have hz:=h5 i hi;rw [hu] at hz;have hz2:=sumQ_le_eq (f:=fun _=>0) (g:=fun j=>u j*S j i) n (fun j _=>Rat.mul_nonneg (h0 j) (hS.pos j i)) (by rw [sumQ_zero,<-hz];exact Rat.le_refl) j hj.1;have e:=hj.2;grind)
 intro i hi;exact Classical.byContradiction (fun h=>this i ⟨hi,h⟩)
def up0 (x:Rat):Rat:=if 0<=x then x else 0
theorem up0_nonneg (x:Rat):0<=up0 x:=by unfold up0;split <;> grind
theorem up0_ge (x:Rat):x<=up0 x:=by unfold up0;split <;> grind
theorem up0_le {x y:Rat} (h:x<=y) (hy:0<=y):up0 x<=y:=by unfold up0;split <;> grind
theorem up0_zero {x:Rat} (h:up0 x=0):x<=0:=by have:=up0_ge x;grind
theorem below_zero {n:Nat} {S:Nat->Nat->Rat} {F:Nat->Prop} (hS:Shr n S) (hF:NoClosed n S F) (d:Nat->Rat) (hs:∀ i,i<n->¬ F i->d i<=0)
  (hle:∀ i,i<n->F i->d i<=sumQ (fun j=>d j*S j i) n):∀ i,i<n->d i<=0:=by
 have h:=kernel hS hF (fun i=>up0 (d i)) (fun i=>up0_nonneg _) (fun i hi hn=>by
  have:=hs i hi hn;show up0 (d i)=0;unfold up0;split <;> grind) (fun i hi hf=>by
  refine up0_le (Rat.le_trans (hle i hi hf) (sumQ_le n (fun j _=>Rat.mul_le_mul_of_nonneg_right (up0_ge _) (hS.pos j i)))) (sumQ_nonneg n (fun j _=>Rat.mul_nonneg (up0_nonneg _) (hS.pos j i))))
 exact fun i hi=>up0_zero (h i hi)
def stepI (p v:Nat) (A:Nat->Nat->Int) (r j:Nat):Int:=A p v*A r j - A r v*A p j
structure SysI (m n:Nat) (V:Nat->Prop) (A:Nat->Nat->Int) (B:Nat) (x:Nat->Rat):Prop where
 bnd:∀ r j,r<m->j<=n->(A r j).natAbs<=B
 out:∀ r j,r<m->j<n->V j->A r j=0
 sol:∀ r,r<m->sumQ (fun j=>(A r j:Rat)*x j) n=(A r n:Rat)
 ker:∀ z:Nat->Rat,(∀ j,j<n->V j->z j=0)->(∀ r,r<m->sumQ (fun j=>(A r j:Rat)*z j) n=0)->∀ j,j<n->z j=0
theorem stepI_sum (p v n:Nat) (A:Nat->Nat->Int) (r:Nat) (z:Nat->Rat):sumQ (fun j=>(stepI p v A r j:Rat)*z j) n=(A p v:Rat)*sumQ (fun j=>(A r j:Rat)*z j) n - (A r v:Rat)*sumQ (fun j=>(A p j:Rat)*z j) n:=by
 rw [<-sumQ_mul,<-sumQ_mul,<-sumQ_sub];refine sumQ_congr n (fun j _=>?_);unfold stepI;rw [Rat.intCast_sub,Rat.intCast_mul,Rat.intCast_mul];grind
theorem SysI.step {m n:Nat} {V:Nat->Prop} {A:Nat->Nat->Int} {B:Nat} {x:Nat->Rat} (h:SysI m n V A B x) (v:Nat) (hv:v<n) (hV:¬ V v):∃ A',SysI m n (fun j=>V j\/j=v) A' (2*(B*B)) x:=by
 obtain⟨p,hp,hne⟩:∃ p,p<m/\A p v≠0:=by
  refine Classical.byContradiction (fun hn=>?_);have hz:∀ r,r<m->A r v=0:=fun r hr=>Classical.byContradiction (fun h=>hn ⟨r,hr,h⟩)
  have:=h.ker (fun j=>if j=v then 1 else 0) (fun j _ hj=>by
   by_cases e:j=v
   ·subst e;exact absurd hj hV
   ·simp [e]) (fun r hr=>by
   rw [sumQ_one _ v n hv (fun i _ hi=>by simp [hi]),if_pos rfl,hz r hr];simp) v hv
  simp at this
 have hnq:(A p v:Rat)≠0:=by
  intro e;have:((A p v:Int):Rat)=((0:Int):Rat):=e;exact hne (Rat.intCast_inj.1 this)
 refine⟨stepI p v A,fun r j hr hj=>?_,fun r j hr hj hVj=>?_,fun r hr=>?_,fun z hz hs=>?_⟩
 ·unfold stepI;have h1:(A p v*A r j).natAbs<=B*B:=by rw [Int.natAbs_mul];exact Nat.mul_le_mul (h.bnd p v hp (by omega)) (h.bnd r j hr hj)
  have h2:(A r v*A p j).natAbs<=B*B:=by rw [Int.natAbs_mul];exact Nat.mul_le_mul (h.bnd r v hr (by omega)) (h.bnd p j hp hj)
  omega
 ·unfold stepI;rcases hVj with e | e
  ·rw [h.out r j hr hj e,h.out p j hp hj e];simp
  ·subst e;rw [Int.mul_comm];omega
 ·rw [stepI_sum,h.sol r hr,h.sol p hp];unfold stepI;rw [Rat.intCast_sub,Rat.intCast_mul,Rat.intCast_mul]
 ·have hzv:z v=0:=hz v hv (.inr rfl)
  have e1:∀ r,r<m->sumQ (fun j=>(A r j:Rat)*(if j=v then - ((A p v:Rat)⁻¹*sumQ (fun j=>(A p j:Rat)*z j) n) else z j)) n=sumQ (fun j=>(A r j:Rat)*z j) n - (A r v:Rat)*((A p v:Rat)⁻¹*sumQ (fun j=>(A p j:Rat)*z j) n):=by
   intro r hr
   have e2:sumQ (fun j=>(A r j:Rat)*(if j=v then - ((A p v:Rat)⁻¹*sumQ (fun j=>(A p j:Rat)*z j) n) else z j)) n=sumQ (fun j=>(A r j:Rat)*z j+(if j=v then - ((A r v:Rat)*((A p v:Rat)⁻¹*sumQ (fun j=>(A p j:Rat)*z j) n)) else 0)) n:=
    sumQ_congr n (fun j _=>by
     by_cases e:j=v
     ·subst e;simp only [if_pos rfl,hzv];grind
     ·simp only [if_neg e];grind)
   rw [e2,sumQ_add,sumQ_one (fun j=>if j=v then - ((A r v:Rat)*((A p v:Rat)⁻¹*sumQ (fun j=>(A p j:Rat)*z j) n)) else 0) v n hv (fun i _ hi=>by simp [hi]),if_pos rfl];grind
  have e3:=h.ker (fun j=>if j=v then - ((A p v:Rat)⁻¹*sumQ (fun j=>(A p j:Rat)*z j) n) else z j) (fun j hj hVj=>by
   have hjv:j≠v:=fun e=>hV (e ▸ hVj)
   simp only [if_neg hjv];exact hz j hj (.inl hVj)) (fun r hr=>by
   rw [e1 r hr];have:=hs r hr;rw [stepI_sum] at this;generalize sumQ (fun j=>(A r j:Rat)*z j) n=s at this ⊢;generalize sumQ (fun j=>(A p j:Rat)*z j) n=t at this ⊢;have e4:(A p v:Rat)*(A p v:Rat)⁻¹=1:=by grind
   have e5:(A p v:Rat)⁻¹*((A p v:Rat)*s - (A r v:Rat)*t)=0:=by rw [this];grind
   grind)
  intro j hj;by_cases e:j=v
  ·subst e;exact hzv
  ·have:=e3 j hj;simp only [if_neg e] at this;exact this
def bdI (B:Nat):Nat->Nat
 | 0=>B
 | c+1=>2*(bdI B c*bdI B c)
theorem bdI_le (B c:Nat):bdI B c<=bdI B (c+1):=by
 show bdI B c<=2*(bdI B c*bdI B c);have:=Nat.le_mul_self (bdI B c);omega
theorem SysI.mono {m n:Nat} {V W:Nat->Prop} {A:Nat->Nat->Int} {B C:Nat} {x:Nat->Rat} (h:SysI m n V A B x) (hVW:∀ j,j<n->(V j↔W j)) (hB:B<=C):SysI m n W A C x:=
 ⟨fun r j hr hj=>Nat.le_trans (h.bnd r j hr hj) hB,fun r j hr hj hw=>h.out r j hr hj ((hVW j hj).2 hw),h.sol,fun z hz hs=>h.ker z (fun j hj hv=>hz j hj ((hVW j hj).1 hv)) hs⟩
theorem SysI.all {m n:Nat} {A:Nat->Nat->Int} {B:Nat} {x:Nat->Rat} (h:SysI m n (fun _=>False) A B x) (t:Nat):∀ c,c<=n->∃ A',SysI m n (fun j=>j<c/\j≠t) A' (bdI B c) x
 | 0,_=>⟨A,h.mono (fun j _=>by simp) jl⟩
 | c+1,hc=>by
  obtain⟨A',h'⟩:=SysI.all h t c (by omega);by_cases e:c=t
  ·exact⟨A',h'.mono (fun j _=>by constructor <;> (intro q;omega)) (bdI_le B c)⟩
  ·obtain⟨A2,h2⟩:=h'.step c (by omega) (by omega);exact⟨A2,h2.mono (fun j _=>by constructor <;> (intro q;omega)) jl⟩
theorem SysI.bound {m n:Nat} {A:Nat->Nat->Int} {B:Nat} {x:Nat->Rat} (h:SysI m n (fun _=>False) A B x) (t:Nat) (ht:t<n):∃ p q:Int,q≠0/\p.natAbs<=bdI B n/\q.natAbs<=bdI B n/\(q:Rat)*x t=(p:Rat):=by
 obtain⟨A',h'⟩:=h.all t n jl
 have hs:∀ (r:Nat) (z:Nat->Rat),r<m->sumQ (fun j=>(A' r j:Rat)*z j) n=(A' r t:Rat)*z t:=fun r z hr=>
  sumQ_one _ t n ht (fun i hi hn=>by rw [h'.out r i hr hi ⟨hi,hn⟩];simp)
 obtain⟨r,hr,hne⟩:∃ r,r<m/\A' r t≠0:=by
  refine Classical.byContradiction (fun hn=>?_);have hz:∀ r,r<m->A' r t=0:=fun r hr=>Classical.byContradiction (fun h=>hn ⟨r,hr,h⟩)
  have:=h'.ker (fun j=>if j=t then 1 else 0) (fun j _ hj=>by simp [hj.2]) (fun r hr=>by
   rw [hs r _ hr,hz r hr];simp) t ht
  simp at this
 refine⟨A' r n,A' r t,hne,h'.bnd r n hr jl,h'.bnd r t hr (by omega),?_⟩;rw [<-hs r x hr,h'.sol r hr]
theorem int_divInt (a:Int):(a:Rat)=Rat.divInt a 1:=by
 apply Rat.ext
 ·rw [Rat.num_intCast,Rat.num_divInt];simp
 ·rw [Rat.den_intCast,Rat.den_divInt];simp
theorem mul_den_num (w:Rat):w*(w.den:Rat)=(w.num:Rat):=by
 have a1:(w.den:Rat)=Rat.divInt (w.den:Int) 1:=int_divInt (w.den:Int);have a3:((w.den:Nat):Int)≠0:=by have:=w.den_pos;omega
 have a4:w=Rat.divInt w.num w.den:=(Rat.num_divInt_den w).symm;rw [a1,int_divInt w.num]
 conv=>lhs;arg 1;rw [a4]
 rw [Rat.divInt_mul_divInt,Int.mul_comm (w.den:Int) 1,Rat.divInt_mul_right a3]
theorem lowest_le {w:Rat} {p q:Int} (hq:q≠0) (h:(q:Rat)*w=(p:Rat)):w.num.natAbs<=p.natAbs/\w.den<=q.natAbs:=by
 have e1:w.num*q=p*w.den:=by
  have e2:w=mkRat w.num w.den:=(Rat.mkRat_self w).symm
  have hd:(w.den:Rat)≠0:=by
   intro e;have:((w.den:Int):Rat)=((0:Int):Rat):=e;have:=Rat.intCast_inj.1 this;have:=w.den_pos;omega
  have e3:w*(w.den:Rat)=(w.num:Rat):=mul_den_num w
  have e4:((w.num*q:Int):Rat)=((p*w.den:Int):Rat):=by
   rw [Rat.intCast_mul,Rat.intCast_mul,<-e3,<-h];have:((w.den:Int):Rat)=(w.den:Rat):=rfl;rw [this];grind
  exact Rat.intCast_inj.1 e4
 have e2:w.num.natAbs*q.natAbs=p.natAbs*w.den:=by
  have:=congrArg Int.natAbs e1;simpa [Int.natAbs_mul] using this
 have hc:Nat.Coprime w.num.natAbs w.den:=w.reduced;constructor
 ·by_cases hp:p.natAbs=0
  ·rw [hp] at e2;have:0<q.natAbs:=by omega
   have:w.num.natAbs=0:=by
    rcases Nat.eq_zero_or_pos w.num.natAbs with h | h
    ·exact h
    ·have:=Nat.mul_pos h this;omega
   omega
  ·exact Nat.le_of_dvd (by omega) (hc.dvd_of_dvd_mul_right ⟨_,e2.symm⟩)
 ·exact Nat.le_of_dvd (by omega) (hc.symm.dvd_of_dvd_mul_left ⟨p.natAbs,by rw [e2,Nat.mul_comm]⟩)
open Go Go.RowKit
def takeB (ops:Array Oper) (L:Array Bool) (i:Nat):Bool:=Region.noSelect ops && (Region.free .any ops L i && (Region.ready .any ops L).contains i)
section
variable {P:Program} {ops:Array Oper} {Q:Exit->Act->World->Prop} {S:World->Prop}
theorem takeB_spec {L:Array Bool} {i:Nat} (h:takeB ops L i=true):Region.noSelect ops=true/\Region.free .any ops L i=true/\(Region.ready .any ops L).contains i=true:=by
 unfold takeB at h;simp only [Bool.and_eq_true] at h;exact h
def wpTk (P:Program) (ops:Array Oper) (Q:Exit->Act->World->Prop) (S:World->Prop) (is:List Nat) (f:Nat) (L:Array Bool) (a:Act) (w:World):Prop:=wpAnyH P .any ops Q S f L a w
theorem wtk_begin (is:List Nat) {f:Nat} {L:Array Bool} {a:Act} {w:World} (h:wpTk P ops Q S is f L a w):wpAnyH P .any ops Q S f L a w:=h
theorem wtk_end {f:Nat} {L:Array Bool} {a:Act} {w:World} (h:wpAnyH P .any ops Q S f L a w):wpTk P ops Q S [] f L a w:=h
theorem wtk {i:Nat} {is:List Nat} {oi:Oper} {v:Value} {f:Nat} {L:Array Bool} {a:Act} {w:World} (hi:ops[i]? = some oi) (hb:takeB ops L i=true)
  (hQ:∀ c a w,Q (.panic c) (a.put oi.dst v) w->Q (.panic c) a w) (hw:Region.wanted oi (yielded ops a.tmps)=true) (hv:∀ w,S w->(execOp a.eval oi).run P w = .ok (.value v) w) (hS:S w)
  (h:wpTk P ops Q S is f (L.setIfInBounds i true) (a.put oi.dst v) w):wpTk P ops Q S (i :: is) (f+1) L a w:=
 wpAnyH_take hi (takeB_spec hb).1 (takeB_spec hb).2.1 (takeB_spec hb).2.2 hQ (.inl ⟨hw,hv⟩) hS h
theorem wtk_un {i:Nat} {is:List Nat} {oi:Oper} {f:Nat} {L:Array Bool} {a:Act} {w:World} (hi:ops[i]? = some oi) (hb:takeB ops L i=true)
  (hQ:∀ c a w,Q (.panic c) (a.put oi.dst undef) w->Q (.panic c) a w) (hw:Region.wanted oi (yielded ops a.tmps)=false) (hS:S w)
  (h:wpTk P ops Q S is f (L.setIfInBounds i true) (a.put oi.dst undef) w):wpTk P ops Q S (i :: is) (f+1) L a w:=
 wpAnyH_take hi (takeB_spec hb).1 (takeB_spec hb).2.1 (takeB_spec hb).2.2 hQ (.inr ⟨hw,rfl⟩) hS h
end
end Go.Proofs.YtgmopcncbpdniaaGreat
namespace Go.Proofs.YtgmopcncbpdniaaGreat
open Go.RowKit
attribute [local go_sem ↓] Go.wp_at_zero Go.wp_at_succ
theorem IntIs.le {w:World} {v:Value} {z:Int} {m n:Nat} (h:IntIs w v z m) (hle:m<=n):IntIs w v z n:=by
 obtain⟨u,rfl,h1,h2⟩:=h;exact⟨u,rfl,h1,Nat.le_trans h2 hle⟩
theorem IntIs.drawn {w w':World} {v:Value} {z:Int} {m:Nat} (h:IntIs w v z m) (hd:Drawn w w'):IntIs w' v z m:=by
 obtain⟨u,rfl,h1,h2⟩:=h;exact⟨u,rfl,h1.drawn hd,h2⟩
theorem IntIs.store2 {w:World} {v:Value} {z:Int} {m b:Nat} (h:IntIs w v z m) (u0 u1:Value) {v0 v1:Value} (h0:w.cell? ⟨b,0,none⟩=some v0) (h1:w.cell? ⟨b,1,none⟩=some v1) (n0:NoInt v0) (n1:NoInt v1) :
  IntIs ((w.setCell ⟨b,0,none⟩ u0).setCell ⟨b,1,none⟩ u1) v z m:=by
 obtain⟨u,rfl,g1,g2⟩:=h;exact⟨u,rfl,g1.store2 u0 u1 h0 h1 n0 n1,g2⟩
theorem int_add (a b:Value) (p q:Int) (k:Nat) (w:World) (ha:IntIs w a p k) (hb:IntIs w b q k) (hk:k<=549755813888) :
  Calls Tryz.prog 98 #[a,b] w fun e w'=>∃ r,e = .returned r/\IntIs w' r (p+q) (k+1)/\Below w.heap.size w w':=by
 obtain⟨u,rfl,hu,bu⟩:=ha;obtain⟨v,rfl,hv,bv⟩:=hb;by_cases hp:p<0 <;> by_cases hq:q<0
 ·have e1:decide (p<0)=true:=by simpa using hp
  have e2:decide (q<0)=true:=by simpa using hq
  rw [e1,e2];refine (add_same u v true true _ _ w hu hv (by omega) (by omega)).mono ?_;rintro e w' ⟨r,rfl,hr,hb⟩;exact⟨_,rfl,IntIs.mk (by simp [sgn];omega) hr (nl_add _ _ _ bu bv),hb⟩
 ·have e1:decide (p<0)=true:=by simpa using hp
  have e2:decide (q<0)=false:=by simpa using hq
  rw [e1,e2];by_cases hle:q.natAbs<=p.natAbs
  ·refine (add_tf_ge u v true true _ _ w hu hv hle (by omega) (by omega)).mono ?_;rintro e w' ⟨r,rfl,hr,hb⟩;exact⟨_,rfl,IntIs.mk (by simp [sgn];omega) hr (Nat.le_trans (nl_mono (Nat.sub_le _ _)) (by omega)),hb⟩
  ·refine (add_tf_lt u v true true _ _ w hu hv (by omega) (by omega) (by omega)).mono ?_;rintro e w' ⟨r,rfl,hr,hb⟩;exact⟨_,rfl,IntIs.mk (by simp [sgn];omega) hr (Nat.le_trans (nl_mono (Nat.sub_le _ _)) (by omega)),hb⟩
 ·have e1:decide (p<0)=false:=by simpa using hp
  have e2:decide (q<0)=true:=by simpa using hq
  rw [e1,e2];by_cases hle:q.natAbs<=p.natAbs
  ·refine (add_ft_ge u v true true _ _ w hu hv hle (by omega) (by omega)).mono ?_;rintro e w' ⟨r,rfl,hr,hb⟩;exact⟨_,rfl,IntIs.mk (by simp [sgn];omega) hr (Nat.le_trans (nl_mono (Nat.sub_le _ _)) (by omega)),hb⟩
  ·refine (add_ft_lt u v true true _ _ w hu hv (by omega) (by omega) (by omega)).mono ?_;rintro e w' ⟨r,rfl,hr,hb⟩;exact⟨_,rfl,IntIs.mk (by simp [sgn];omega) hr (Nat.le_trans (nl_mono (Nat.sub_le _ _)) (by omega)),hb⟩
 ·have e1:decide (p<0)=false:=by simpa using hp
  have e2:decide (q<0)=false:=by simpa using hq
  rw [e1,e2];refine (add_same u v false true _ _ w hu hv (by omega) (by omega)).mono ?_;rintro e w' ⟨r,rfl,hr,hb⟩;exact⟨_,rfl,IntIs.mk (by simp [sgn];omega) hr (nl_add _ _ _ bu bv),hb⟩
theorem neg_any (u:Value) (s:Bool) (x:Nat) (w:World) (hu:Mag w u x) :
  Calls Tryz.prog 123 #[.agg #[.bool s,u]] w fun e w'=>e = .returned (.agg #[.bool (!s && decide (0<x)),u])/\Mag w' u x/\Below w.heap.size w w':=by
 have HU:=jj hu;obtain⟨a1,b1,o1,c1,rfl,i1⟩:=hu;have HB:Hid (Below w.heap.size w ((w.alloc (Obj.cells #[Value.bool s,Value.slice a1 (nl x) c1] 90)).alloc (Obj.cells #[.bool false,.slice none 0 0] 90))):=boxes2 w _ _;go_enter Tryz.func123,Tryz.ntmps123;go_wp2_with (go_at_call 106;refine (made_any _ _ x _ (HU.out.mono HB.out jl)).mono ?_;rintro e w1 ⟨rfl,hm,hb⟩;have q1:=fun o=>hb.cell (p:=⟨w.heap.size+1,o,none⟩) (by simp);have q2:=fun o=>hb.frozen (p:=⟨w.heap.size+1,o,none⟩) (by simp);have hs1:w.heap.size+2<=w1.heap.size:=by (have:=hb.size;simpa using this));refine bodyPost_ret (v:=.agg #[.bool (!s && decide (0<x)),.slice a1 (nl x) c1]) (by simp [results,Tryz.results123,go_sem,q1,q2]) rfl ?_;have hbel:=HB.out.trans (hb.mono (by simp;omega));exact⟨rfl,hm.store2 _ _ (v0:=.bool false) (v1:=.slice none 0 0) (by rw [q1];simp [go_sem]) (by rw [q1];simp [go_sem]) (noInt_bool _) (noInt_slice _ _ _),(hbel.setCell (by simp) _).setCell (by simp) _⟩
theorem int_neg (a:Value) (p:Int) (k:Nat) (w:World) (ha:IntIs w a p k) :
  Calls Tryz.prog 123 #[a] w fun e w'=>∃ r,e = .returned r/\IntIs w' r (-p) k/\Below w.heap.size w w':=by
 obtain⟨u,rfl,hu,bu⟩:=ha;refine (neg_any u _ _ w hu).mono ?_;rintro e w' ⟨rfl,hm,hb⟩;refine⟨_,rfl,IntIs.mk ?_ hm bu,hb⟩;unfold sgn;by_cases h:p<0 <;> simp [h] <;> omega
theorem IntIs.shape {w:World} {v:Value} {z:Int} {m:Nat} (h:IntIs w v z m):∃ s a n c,v = .agg #[.bool s,.slice a n c]/\Hid (IntIs w (.agg #[.bool s,.slice a n c]) z m):=by
 have h0:=h;obtain⟨u,rfl,⟨a,b,o,c,rfl,hs⟩,h2⟩:=h;exact⟨_,a,_,c,rfl,h0⟩
theorem int_sub (x y:Value) (p q:Int) (k:Nat) (w:World) (ha:IntIs w x p k) (hb:IntIs w y q k) (hk:k<=549755813888) :
  Calls Tryz.prog 130 #[x,y] w fun e w'=>∃ r,e = .returned r/\IntIs w' r (p - q) (k+1)/\Below w.heap.size w w':=by
 obtain⟨s1,a1,n1,c1,rfl,HA⟩:=ha.shape;obtain⟨s2,a2,n2,c2,rfl,HQ⟩:=hb.shape;clear ha hb;have HB:Hid (Below w.heap.size w (((w.alloc (Obj.cells #[Value.bool s1,Value.slice a1 n1 c1] 90)).alloc (Obj.cells #[Value.bool s2,Value.slice a2 n2 c2] 90)).alloc (Obj.cells #[.bool false,.slice none 0 0] 90))):=boxes3 w _ _ _;go_enter Tryz.func130,Tryz.ntmps130;go_wp2
 go_region_held3 (fun w'=>w'.cell? ⟨w.heap.size,0,none⟩=some (.bool s1)/\w'.cell? ⟨w.heap.size,1,none⟩=some (.slice a1 n1 c1)/\w'.cell? ⟨w.heap.size+1,0,none⟩=some (.bool s2)/\w'.cell? ⟨w.heap.size+1,1,none⟩=some (.slice a2 n2 c2)) (go_keep)
  (first
   | (go_at_call 123;refine (int_neg _ q k _ ((HQ.out.mono HB.out jl).drawn (Drawn.of _ 1))).mono ?_;rintro e w1 ⟨r,rfl,hr,hb1⟩;obtain⟨q1,q2,q3,q4,q5,q6,hz1,HB1⟩:=kept3 (w:=w) hb1 (by simp) HB.out.drew)
   | (go_at_call 98;refine (int_add _ _ p (-q) k _ (HA.out.mono HB1.out jl) hr hk).mono ?_;rintro e w2 ⟨r2,rfl,hr2,hb2⟩;obtain⟨s3,a3,n3,c3,rfl,H3⟩:=hr2.shape;clear hr2;obtain⟨p1,p2,p3,p4,p5,p6,hz2,HB2⟩:=kept3 (w:=w) hb2 hz1 HB1.out))
 go_wp2;refine bodyPost_ret (v:=.agg #[.bool s3,.slice a3 n3 c3]) (by simp [results,Tryz.results130,go_sem,q1,q2,q3,q4,q5,q6,p1,p2,p3,p4,p5,p6]) rfl ?_;refine⟨_,rfl,?_,(HB2.out.setCell (by simp;omega) _).setCell (by simp;omega) _⟩;exact H3.out.store2 _ _ (v0:=.bool false) (v1:=.slice none 0 0) (by rw [p3,q3];simp [go_sem]) (by rw [p3,q3];simp [go_sem]) (noInt_bool _) (noInt_slice _ _ _)
theorem mul_any (u v:Value) (s t:Bool) (x y:Nat) (w:World) (hu:Mag w u x) (hv:Mag w v y) (bxy:nl x+nl y<=1099511627776) :
  Calls Tryz.prog 100 #[.agg #[.bool s,u],.agg #[.bool t,v]] w fun e w'=>∃ r,e = .returned (.agg #[.bool ((s != t) && decide (0<x*y)),r])/\Mag w' r (x*y)/\Below w.heap.size w w':=by
 have HU:=jj hu;have HV:=jj hv;obtain⟨a1,b1,o1,c1,rfl,i1⟩:=hu;obtain⟨a2,b2,o2,c2,rfl,i2⟩:=hv;have HB:Hid (Below w.heap.size w (((w.alloc (Obj.cells #[Value.bool s,Value.slice a1 (nl x) c1] 90)).alloc (Obj.cells #[Value.bool t,Value.slice a2 (nl y) c2] 90)).alloc (Obj.cells #[.bool false,.slice none 0 0] 90))):=boxes3 w _ _ _;go_enter Tryz.func100,Tryz.ntmps100;go_wp2
 go_region_held3 (fun w'=>w'.cell? ⟨w.heap.size,0,none⟩=some (.bool s)/\w'.cell? ⟨w.heap.size,1,none⟩=some (.slice a1 (nl x) c1)/\w'.cell? ⟨w.heap.size+1,0,none⟩=some (.bool t)/\w'.cell? ⟨w.heap.size+1,1,none⟩=some (.slice a2 (nl y) c2)) (go_keep)
  (first
   | (go_at_call 129;refine (times_any _ _ x y _ ((HU.out.mono HB.out jl).drew) ((HV.out.mono HB.out jl).drew) bxy).mono ?_;rintro e w1 ⟨r,rfl,⟨a3,b3,o3,c3,rfl,i3⟩,hb1⟩;obtain⟨q1,q2,q3,q4,q5,q6,hz1,HB1⟩:=kept3 (w:=w) hb1 (by simp) HB.out.drew)
   | (go_at_call 106;refine (made_any _ _ (x*y) _ ⟨a3,b3,o3,c3,rfl,i3⟩).mono ?_;rintro e w2 ⟨rfl,hm2,hb2⟩;obtain⟨p1,p2,p3,p4,p5,p6,hz2,HB2⟩:=kept3 (w:=w) hb2 hz1 HB1.out))
 go_wp2;refine bodyPost_ret (v:=.agg #[.bool ((s != t) && decide (0<x*y)),.slice a3 (nl (x*y)) c3]) (by simp [results,Tryz.results100,go_sem,q1,q2,q3,q4,q5,q6,p1,p2,p3,p4,p5,p6];cases s <;> cases t <;> rfl) rfl ?_;refine⟨_,rfl,?_,(HB2.out.setCell (by simp;omega) _).setCell (by simp;omega) _⟩;exact hm2.store2 _ _ (v0:=.bool false) (v1:=.slice none 0 0) (by rw [p3,q3];simp [go_sem]) (by rw [p3,q3];simp [go_sem]) (noInt_bool _) (noInt_slice _ _ _)
theorem int_mul (x y:Value) (p q:Int) (k l:Nat) (w:World) (ha:IntIs w x p k) (hb:IntIs w y q l) (hk:k+l<=1099511627776) :
  Calls Tryz.prog 100 #[x,y] w fun e w'=>∃ r,e = .returned r/\IntIs w' r (p*q) (k+l)/\Below w.heap.size w w':=by
 obtain⟨u,rfl,hu,bu⟩:=ha;obtain⟨v,rfl,hv,bv⟩:=hb;refine (mul_any u v _ _ _ _ w hu hv (by omega)).mono ?_;rintro e w' ⟨r,rfl,hm,hb⟩;refine⟨_,rfl,IntIs.mk ?_ hm (nl_mul _ _ _ _ bu bv),hb⟩;have e1:=sgn_of p;have e2:=sgn_of q
 conv=>lhs;rw [<-e1,<-e2]
 unfold sgn;by_cases h1:p<0 <;> by_cases h2:q<0 <;> simp [h1,h2,Int.neg_mul,Int.mul_neg]
def sgnZ (z:Int):Int:=if z=0 then 0 else if z<0 then -1 else 1
theorem int_sign (x:Value) (p:Int) (k:Nat) (w:World) (ha:IntIs w x p k) :
  Calls Tryz.prog 131 #[x] w fun e w'=>e = .returned (.int .i64 (sgnZ p))/\Below w.heap.size w w':=by
 obtain⟨u,rfl,⟨a1,b1,o1,c1,rfl,i1⟩,bu⟩:=ha;have HB:=jj (fun (s:Bool)=>boxes1 w (Obj.cells #[Value.bool s,Value.slice a1 (nl p.natAbs) c1] 90));have hz:=nl_eq_zero p.natAbs;by_cases h0:p=0
 ·have hn:(((nl p.natAbs:Nat):Int) == 0)=true:=by rw [h0];rfl
  have H0:=jj h0;generalize decide (p<0)=s;clear h0 hz i1;go_enter Tryz.func131,Tryz.ntmps131;go_wp2;go_ret;exact⟨by simp [sgnZ,H0.out],HB.out _⟩
 ·have hn:(((nl p.natAbs:Nat):Int) == 0)=false:=by simp;intro q;exact h0 (by have:=hz.1 q;omega)
  by_cases h1:p<0
  ·have e1:decide (p<0)=true:=by simpa using h1
   rw [e1];have H0:=jj h0;have H1:=jj h1;clear h0 hz i1 h1 e1;go_enter Tryz.func131,Tryz.ntmps131;go_wp2;go_ret;exact⟨by simp [sgnZ,H0.out,H1.out],HB.out _⟩
  ·have e1:decide (p<0)=false:=by simpa using h1
   rw [e1];have H0:=jj h0;have H1:=jj h1;clear h0 hz i1 h1 e1;go_enter Tryz.func131,Tryz.ntmps131;go_wp2;go_ret;exact⟨by rw [show sgnZ p=1 from by unfold sgnZ;rw [if_neg H0.out,if_neg (by have:=H1.out;omega)]];rfl,HB.out _⟩
theorem int_cmp (x y:Value) (p q:Int) (k:Nat) (w:World) (ha:IntIs w x p k) (hb:IntIs w y q k) (hk:k<=549755813888) :
  Calls Tryz.prog 101 #[x,y] w fun e w'=>e = .returned (.int .i64 (sgnZ (p - q)))/\Below w.heap.size w w':=by
 obtain⟨s1,a1,n1,c1,rfl,HA⟩:=ha.shape;obtain⟨s2,a2,n2,c2,rfl,HQ⟩:=hb.shape;clear ha hb;have HB:Hid (Below w.heap.size w ((w.alloc (Obj.cells #[Value.bool s1,Value.slice a1 n1 c1] 90)).alloc (Obj.cells #[Value.bool s2,Value.slice a2 n2 c2] 90))):=boxes2 w _ _;go_enter Tryz.func101,Tryz.ntmps101;go_wp2_with (first | (go_at_call 130;refine (int_sub _ _ p q k _ (HA.out.mono HB.out jl) (HQ.out.mono HB.out jl) hk).mono ?_;rintro e w1 ⟨r,rfl,hr,hb1⟩) | (go_at_call 131;refine (int_sign _ (p - q) (k+1) _ hr).mono ?_;rintro e w2 ⟨rfl,hb2⟩));go_ret;exact⟨rfl,HB.out.trans ((hb1.mono (by simp;omega)).trans (hb2.mono (by have:=hb1.size;simp at this;omega)))⟩
theorem isSl_two (N:Nat) (hN:N<4611686018427387904) {w:World} {b:Nat} (h0:w.cell? ⟨b,0,none⟩=some (.int .u32 ((N % 4294967296:Nat):Int))) (h1:w.cell? ⟨b,1,none⟩=some (.int .u32 ((N / 4294967296:Nat):Int))) (hb:b<w.heap.size) :
  IsSl w (some ⟨b,0,none⟩) b 0 2 2 (fun i=>.int .u32 (dig N i:Nat)):=
 ⟨Nat.le_refl _,fun _=>rfl,fun _=>hb,fun i hi=>by
  match i,hi with
  | 0,_=>rw [h0];simp [dig]
  | 1,_=>
   rw [h1];have:N / 4294967296 % 4294967296=N / 4294967296:=Nat.mod_eq_of_lt (by omega);simp [dig,this],fun e=>by cases e⟩
theorem of_pos (N:Nat) (hN:N<4611686018427387904) (w:World) :
  Calls Tryz.prog 94 #[.int .i64 (N:Nat)] w fun e w'=>∃ r,e = .returned r/\IntIs w' r N 2/\Below w.heap.size w w':=by
 have hn2:nl N<=2:=by rw [nl_le];omega
 have hv:valF (dig N) 2=N:=valF_dig_le N 2 hn2;have HN:=jj hN;have hN2:(N:Int)<=4611686018427387903:=by omega
 have hdn:decide ((N:Int)<0)=false:=by simp
 clear hN;have HV:=jj hv;have HN2:=jj hn2;clear hv hn2;go_enter Tryz.func94,Tryz.ntmps94;go_wp2_with fail;refine (trim_any _ (w.heap.size+1) 0 2 2 (dig N) _ (by omega) (isSl_two N HN.out (by simp [go_sem]) (by simp [go_sem]) (by simp))).mono ?_;rintro e w' ⟨rfl,hww⟩;have hww2:=hww.symm;clear hww;subst hww2;go_wp2_with fail;refine (made_any _ _ N _ ?_).mono ?_
 ·have:=trim_mag (fun i _=>dig_lt N i) (isSl_two N HN.out (w:=(w.alloc (Obj.cells #[Value.bool false,Value.slice none 0 0] 90)).alloc (Obj.cells #[Value.int IntKind.u32 ((N:Int) % 4294967296),Value.int IntKind.u32 ((N:Int) / 4294967296)] 145)) (b:=w.heap.size+1) (by simp [go_sem]) (by simp [go_sem]) (by simp));rw [HV.out] at this;exact this
 ·rintro e w1 ⟨rfl,hm,hb⟩;have q1:=fun o=>hb.cell (p:=⟨w.heap.size,o,none⟩) (by simp;omega)
  have q2:=fun o=>hb.frozen (p:=⟨w.heap.size,o,none⟩) (by simp;omega)
  have hs1:w.heap.size+2<=w1.heap.size:=by (have:=hb.size;simpa using this)
  go_wp2;refine bodyPost_ret (v:=.agg #[.bool (false && decide (0<N)),.slice (some ⟨w.heap.size+1,0,none⟩) (trimN (dig N) 2) 2]) (by simp [results,Tryz.results94,go_sem,q1,q2]) rfl ?_;have hbel:=(boxes2 w (Obj.cells #[Value.bool false,Value.slice none 0 0] 90) (Obj.cells #[Value.int IntKind.u32 ((N:Int) % 4294967296),Value.int IntKind.u32 ((N:Int) / 4294967296)] 145)).trans (hb.mono (by simp;omega));refine⟨_,rfl,?_,(hbel.setCell (by simp) _).setCell (by simp) _⟩;exact IntIs.mk (by simp [sgn]) (hm.store2 _ _ (v0:=.bool false) (v1:=.slice none 0 0) (by rw [q1];simp [go_sem]) (by rw [q1];simp [go_sem]) (noInt_bool _) (noInt_slice _ _ _)) HN2.out
theorem of_neg (N:Nat) (hN:N<4611686018427387904) (hN0:0<N) (w:World) :
  Calls Tryz.prog 94 #[.int .i64 (-(N:Nat):Int)] w fun e w'=>∃ r,e = .returned r/\IntIs w' r (-(N:Int)) 2/\Below w.heap.size w w':=by
 have hn2:nl N<=2:=by rw [nl_le];omega
 have hv:valF (dig N) 2=N:=valF_dig_le N 2 hn2;have HN:=jj hN;have hN2:(N:Int)<=4611686018427387903:=by omega
 have hdn:decide (-(N:Int)<0)=true:=by simp;omega
 have hwr:IntKind.u64.wrap (-IntKind.u64.wrap (-(N:Int)))=N:=by rw [IntKind.wrap_u64,IntKind.wrap_u64];omega
 clear hN;have HV:=jj hv;have HN2:=jj hn2;clear hv hn2;go_enter Tryz.func94,Tryz.ntmps94;go_wp2_with fail;refine (trim_any _ (w.heap.size+1) 0 2 2 (dig N) _ (by omega) (isSl_two N HN.out (by simp [go_sem]) (by simp [go_sem]) (by simp))).mono ?_;rintro e w' ⟨rfl,hww⟩;have hww2:=hww.symm;clear hww;subst hww2;go_wp2_with fail;refine (made_any _ _ N _ ?_).mono ?_
 ·have:=trim_mag (fun i _=>dig_lt N i) (isSl_two N HN.out (w:=(w.alloc (Obj.cells #[Value.bool false,Value.slice none 0 0] 90)).alloc (Obj.cells #[Value.int IntKind.u32 ((N:Int) % 4294967296),Value.int IntKind.u32 ((N:Int) / 4294967296)] 145)) (b:=w.heap.size+1) (by simp [go_sem]) (by simp [go_sem]) (by simp));rw [HV.out] at this;exact this
 ·rintro e w1 ⟨rfl,hm,hb⟩;have q1:=fun o=>hb.cell (p:=⟨w.heap.size,o,none⟩) (by simp;omega)
  have q2:=fun o=>hb.frozen (p:=⟨w.heap.size,o,none⟩) (by simp;omega)
  have hs1:w.heap.size+2<=w1.heap.size:=by (have:=hb.size;simpa using this)
  go_wp2;refine bodyPost_ret (v:=.agg #[.bool (true && decide (0<N)),.slice (some ⟨w.heap.size+1,0,none⟩) (trimN (dig N) 2) 2]) (by simp [results,Tryz.results94,go_sem,q1,q2];exact hN0) rfl ?_;have hbel:=(boxes2 w (Obj.cells #[Value.bool false,Value.slice none 0 0] 90) (Obj.cells #[Value.int IntKind.u32 ((N:Int) % 4294967296),Value.int IntKind.u32 ((N:Int) / 4294967296)] 145)).trans (hb.mono (by simp;omega));refine⟨_,rfl,?_,(hbel.setCell (by simp) _).setCell (by simp) _⟩;exact IntIs.mk (by simp [sgn]) (hm.store2 _ _ (v0:=.bool false) (v1:=.slice none 0 0) (by rw [q1];simp [go_sem]) (by rw [q1];simp [go_sem]) (noInt_bool _) (noInt_slice _ _ _)) HN2.out
theorem int_of (n:Int) (h1 : -4611686018427387904<n) (h2:n<4611686018427387904) (w:World) :
  Calls Tryz.prog 94 #[.int .i64 n] w fun e w'=>∃ r,e = .returned r/\IntIs w' r n 2/\Below w.heap.size w w':=by
 by_cases h:0<=n
 ·obtain⟨N,rfl⟩:=Int.eq_ofNat_of_zero_le h;exact of_pos N (by omega) w
 ·obtain⟨N,hN⟩:=Int.eq_ofNat_of_zero_le (a:=-n) (by omega);obtain rfl:n = -(N:Int):=by omega
  exact of_neg N (by omega) (by omega) w
theorem int_gcd (x y:Value) (p q:Int) (k:Nat) (w:World) (ha:IntIs w x p k) (hb:IntIs w y q k) (hk:k<=549755813888) :
  Calls Tryz.prog 107 #[x,y] w fun e w'=>∃ r,e = .returned r/\IntIs w' r (Int.gcd p q:Nat) k/\Below w.heap.size w w':=by
 obtain⟨u,rfl,hu,bu⟩:=ha;obtain⟨v,rfl,hv,bv⟩:=hb;have HU:=jj hu;have HV:=jj hv;obtain⟨a1,b1,o1,c1,rfl,i1⟩:=hu;obtain⟨a2,b2,o2,c2,rfl,i2⟩:=hv;obtain⟨s1,hs1⟩:∃ s,s=decide (p<0):=⟨_,rfl⟩;obtain⟨s2,hs2⟩:∃ s,s=decide (q<0):=⟨_,rfl⟩;rw [<-hs1,<-hs2];clear hs1 hs2;have HB:Hid (Below w.heap.size w (((w.alloc (Obj.cells #[Value.bool s1,Value.slice a1 (nl p.natAbs) c1] 90)).alloc (Obj.cells #[Value.bool s2,Value.slice a2 (nl q.natAbs) c2] 90)).alloc (Obj.cells #[.bool false,.slice none 0 0] 90))):=boxes3 w _ _ _;go_enter Tryz.func107,Tryz.ntmps107;go_wp2
 go_quiet (fail)
 go_wp2
 go_loopg [5,6] q.natAbs (fun g xv yv wr=>∃ X:Nat,Mag wr xv X/\Mag wr yv g/\nl X<=k/\nl g<=k/\Hid (Nat.gcd X g=Nat.gcd p.natAbs q.natAbs)/\w.heap.size+3<=wr.heap.size/\Hid (Below w.heap.size w wr)/\
   wr.cell? ⟨w.heap.size+1+1,0,none⟩=some (.bool false)/\wr.cell? ⟨w.heap.size+1+1,1,none⟩=some (.slice none 0 0)/\(∀ o,wr.frozen? ⟨w.heap.size+1+1,o,none⟩=false))
 case atStart=>exact⟨p.natAbs,(HU.out.mono HB.out jl).drawn (Drawn.of _ _),(HV.out.mono HB.out jl).drawn (Drawn.of _ _),bu,bv,rfl,by simp,below_drawN HB.out _,by simp [go_sem],by simp [go_sem],fun o=>by simp [go_sem]⟩
 case round=>
  obtain⟨X,hX,hY,bX,bY,HG,hsz,HBW,hc0,hc1,hfz⟩:=hrel;have HX:=jj hX;have HY:=jj hY;obtain⟨ax,bx,ox,cx,rfl,ix⟩:=hX;obtain⟨ay,b_y,oy,cy,rfl,iy⟩:=hY;clear ix iy i1 i2;by_cases h0:0<gk
  ·have hn:0<nl gk:=(nl_pos _).2 h0;go_wp2_with (go_at_call 134;refine (part_any _ _ X gk _ HX.out HY.out h0 (by omega) (by omega)).mono ?_;rintro e w1 ⟨qv,rv,rfl,hq,hr,hb⟩)
   go_roundg (X % gk)
   case measure=>exact Nat.mod_lt _ h0
   case rel=>
    refine⟨gk,HY.out.mono hb jl,hr,bY,Nat.le_trans (nl_mono (Nat.le_of_lt (Nat.mod_lt _ h0))) bY,?_,by have:=hb.size;omega,HBW.out.trans (hb.mono (by omega)),?_,?_,?_⟩
    ·show _=_;rw [<-HG.out,Nat.gcd_comm gk,<-Nat.gcd_rec,Nat.gcd_comm]
    ·rw [hb.cell (p:=⟨_,0,none⟩) (by dsimp only;omega)];exact hc0
    ·rw [hb.cell (p:=⟨_,1,none⟩) (by dsimp only;omega)];exact hc1
    ·intro o;rw [hb.frozen (p:=⟨_,o,none⟩) (by dsimp only;omega)];exact hfz o
  ·obtain rfl:gk=0:=by omega
   go_wp2_with (go_at_call 106;refine (made_any _ _ X _ HX.out).mono ?_;rintro e w2 ⟨rfl,hm2,hb2⟩;have p1:=fun o=>hb2.cell (p:=⟨w.heap.size+1+1,o,none⟩) (by dsimp only;omega);have p2:=fun o=>hb2.frozen (p:=⟨w.heap.size+1+1,o,none⟩) (by dsimp only;omega);have hz2:=hb2.size);refine bodyPost_ret (v:=.agg #[.bool (false && decide (0<X)),.slice ax (nl X) cx]) (by simp [results,Tryz.results107,go_sem,p1,p2,hc0,hc1,hfz]) rfl ?_;refine⟨_,rfl,?_,((HBW.out.trans (hb2.mono (by omega))).setCell (by simp;omega) _).setCell (by simp;omega) _⟩;refine IntIs.mk ?_ (hm2.store2 _ _ (v0:=.bool false) (v1:=.slice none 0 0) (by rw [p1];exact hc0) (by rw [p1];exact hc1) (noInt_bool _) (noInt_slice _ _ _)) bX;have:=HG.out;rw [Nat.gcd_zero_right] at this;show ((Int.gcd p q:Nat):Int)=(X:Int);rw [this];rfl
end Go.Proofs.YtgmopcncbpdniaaGreat
