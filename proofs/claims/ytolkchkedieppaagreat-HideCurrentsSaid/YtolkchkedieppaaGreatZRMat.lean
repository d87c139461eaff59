import Derived.Test.YtolkchkedieppaaGreatZPlainR
import Derived.Test.YtolkchkedieppaaGreatZTakes
import Derived.Test.YtolkchkedieppaaGreatZGen
set_option linter.unusedVariables false
set_option linter.unusedSimpArgs false
namespace Go.Proofs.YtolkchkedieppaaGreat
def elimQ (c:Nat) (a:Nat→Nat→Rat) (i j:Nat):Rat:=if c<i∧c≤j then a i j - a i c / a c c*a c j else a i j
def triQ (a:Nat→Nat→Rat):Nat→Nat→Nat→Rat
  | 0=>a
  | c+1=>elimQ c (triQ a c)
structure MMat (k c:Nat) (a:Nat→Nat→Rat):Prop where
  off:∀ i j,c≤i→i<k→c≤j→j<k→i≠j→a i j≤0
  col:∀ j,c≤j→j<k→0≤sumQ (fun i=>if c≤i then a i j else 0) k
  ker:∀ z:Nat→Rat,(∀ i,c≤i→i<k→sumQ (fun j=>if c≤j then a i j*z j else 0) k=0)→∀ i,c≤i→i<k→z i=0
theorem sumQ_split (f:Nat→Rat) (c:Nat):∀ k,c<k→sumQ (fun i=>if c≤i then f i else 0) k=f c+sumQ (fun i=>if c+1≤i then f i else 0) k
  | 0,h=>by omega
  | k+1,h=>by
    simp only [sumQ]
    by_cases e:c=k
    · subst e
      have h1:sumQ (fun i=>if c≤i then f i else 0) c=0:=sumQ_eq_zero c (fun i hi=>if_neg (by omega))
      have h2:sumQ (fun i=>if c+1≤i then f i else 0) c=0:=sumQ_eq_zero c (fun i hi=>if_neg (by omega))
      rw [h1,h2,if_pos (Nat.le_refl _),if_neg (by omega)]
      grind
    · rw [sumQ_split f c k (by omega),if_pos (by omega),if_pos (by omega)]
      grind
theorem MMat.pivot {k c:Nat} {a:Nat→Nat→Rat} (h:MMat k c a) (hc:c<k):0<a c c:=by
  have h1:=h.col c (Nat.le_refl _) hc
  rw [sumQ_split (fun i=>a i c) c k hc] at h1
  have h2:sumQ (fun i=>if c+1≤i then a i c else 0) k≤sumQ (fun _=>0) k:=sumQ_le k (fun i hi=>by
    by_cases e:c+1≤i
    · rw [if_pos e];exact h.off i c (by omega) hi (Nat.le_refl _) hc (by omega)
    · rw [if_neg e];exact Rat.le_refl)
  have h3:=h2
  rw [sumQ_zero] at h3
  by_cases e:a c c=0
  · exfalso
    have h4:=sumQ_le_eq k (f:=fun i=>if c+1≤i then a i c else 0) (g:=fun _=>0) (fun i hi=>by
      by_cases e:c+1≤i
      · rw [if_pos e];exact h.off i c (by omega) hi (Nat.le_refl _) hc (by omega)
      · rw [if_neg e];exact Rat.le_refl) (by rw [sumQ_zero];grind)
    have:=h.ker (fun j=>if j=c then 1 else 0) (fun i hi hk=>by
      rw [sumQ_one _ c k hc (fun j hj hn=>by simp [hn])]
      rw [if_pos (Nat.le_refl _),if_pos rfl]
      by_cases e2:i=c
      · subst e2;rw [e];grind
      · have:=h4 i hk
        rw [if_pos (by omega)] at this
        rw [this];grind) c (Nat.le_refl _) hc
    simp at this
  · grind
theorem mul_nonpos {x y:Rat} (hx:x≤0) (hy:0≤y):x*y≤0:=by
  have:=Rat.mul_le_mul_of_nonneg_right hx hy
  grind
theorem mul_nonpos2 {x y:Rat} (hx:x≤0) (hy:y≤0):0≤x*y:=by
  have:=Rat.mul_nonneg (a:=-x) (b:=-y) (by grind) (by grind)
  grind
theorem inv_pos' {x:Rat} (h:0<x):0<x⁻¹:=Rat.inv_pos.2 h
theorem MMat.step {k c:Nat} {a:Nat→Nat→Rat} (h:MMat k c a) (hc:c<k):MMat k (c+1) (elimQ c a):=by
  have hp:=h.pivot hc
  have hi:=inv_pos' hp
  have hne:a c c≠0:=by grind
  refine⟨fun i j h1 h2 h3 h4 hn=>?_,fun j h3 h4=>?_,fun z hz i h1 h2=>?_⟩
  · unfold elimQ
    rw [if_pos ⟨by omega,by omega⟩]
    have e1:=h.off i j (by omega) h2 (by omega) h4 hn
    have e2:=h.off i c (by omega) h2 (by omega) hc (by omega)
    have e3:=h.off c j (by omega) hc (by omega) h4 (by omega)
    have e4:=Rat.mul_nonneg (mul_nonpos2 e2 e3) (Rat.le_of_lt hi)
    have e5:a i c / a c c*a c j=a i c*a c j*(a c c)⁻¹:=by rw [Rat.div_def];grind
    rw [e5];grind
  · have e1:=h.col j (by omega) h4
    rw [sumQ_split (fun i=>a i j) c k hc] at e1
    have e2:=h.col c (Nat.le_refl _) hc
    rw [sumQ_split (fun i=>a i c) c k hc] at e2
    have e3:=h.off c j (by omega) hc (by omega) h4 (by omega)
    have e4:sumQ (fun i=>if c+1≤i then elimQ c a i j else 0) k=sumQ (fun i=>if c+1≤i then a i j else 0) k - (a c c)⁻¹*a c j*sumQ (fun i=>if c+1≤i then a i c else 0) k:=by
      rw [←sumQ_mul,←sumQ_sub]
      refine sumQ_congr k (fun i hi=>?_)
      by_cases e:c+1≤i
      · simp only [if_pos e]
        unfold elimQ
        rw [if_pos ⟨by omega,by omega⟩,Rat.div_def];grind
      · simp only [if_neg e];grind
    rw [e4]
    -- the sum of the pivot's column below it is at or above minus the pivot
    generalize sumQ (fun i=>if c+1≤i then a i c else 0) k=s at e2 ⊢
    generalize sumQ (fun i=>if c+1≤i then a i j else 0) k=t at e1 ⊢
    have e6:0≤(a c c+s)*(a c c)⁻¹:=Rat.mul_nonneg e2 (Rat.le_of_lt hi)
    have e7:(a c c+s)*(a c c)⁻¹=1+s*(a c c)⁻¹:=by grind
    rw [e7] at e6
    have e8:=mul_nonpos e3 e6
    grind
  · -- a homogeneous solution behind the step is one ahead of it
    have e0:∀ i,c≤i→i<k→sumQ (fun j=>if c≤j then a i j*(if j=c then - ((a c c)⁻¹*sumQ (fun j=>if c+1≤j then a c j*z j else 0) k) else z j) else 0) k=0:=by
      intro i h1 h2
      rw [sumQ_split (fun j=>a i j*(if j=c then - ((a c c)⁻¹*sumQ (fun j=>if c+1≤j then a c j*z j else 0) k) else z j)) c k hc,if_pos rfl]
      have e1:sumQ (fun j=>if c+1≤j then a i j*(if j=c then - ((a c c)⁻¹*sumQ (fun j=>if c+1≤j then a c j*z j else 0) k) else z j) else 0) k=sumQ (fun j=>if c+1≤j then a i j*z j else 0) k:=
        sumQ_congr k (fun j hj=>by
          by_cases e:c+1≤j
          · simp only [if_pos e];rw [if_neg (by omega)]
          · simp only [if_neg e])
      rw [e1]
      by_cases e:i=c
      · subst e;grind
      · have e2:=hz i (by omega) h2
        have e3:sumQ (fun j=>if c+1≤j then elimQ c a i j*z j else 0) k=sumQ (fun j=>if c+1≤j then a i j*z j else 0) k - a i c*(a c c)⁻¹*sumQ (fun j=>if c+1≤j then a c j*z j else 0) k:=by
          rw [←sumQ_mul,←sumQ_sub]
          refine sumQ_congr k (fun j hj=>?_)
          by_cases e:c+1≤j
          · simp only [if_pos e]
            unfold elimQ
            rw [if_pos ⟨by omega,by omega⟩,Rat.div_def];grind
          · simp only [if_neg e];grind
        rw [e3] at e2
        grind
    have:=h.ker _ e0 i (by omega) h2
    rwa [if_neg (by omega)] at this
theorem MMat.tri {k:Nat} {a:Nat→Nat→Rat} (h:MMat k 0 a):∀ c,c≤k→MMat k c (triQ a c)
  | 0,_=>h
  | c+1,hc=>(MMat.tri h c (by omega)).step (by omega)
def resid (k c:Nat) (a:Nat→Nat→Rat) (x:Nat→Rat) (i:Nat):Rat:=a i k - sumQ (fun j=>if c≤j then a i j*x j else 0) k
theorem resid_step {k c:Nat} {a:Nat→Nat→Rat} (x:Nat→Rat) (hc:c<k) (hp:a c c≠0) (i:Nat) (hi:c<i) (h:resid k (c+1) (elimQ c a) x i=0) (h0:resid k c a x c=0):resid k c a x i=0:=by
  unfold resid at *
  rw [sumQ_split (fun j=>a c j*x j) c k hc] at h0
  rw [sumQ_split (fun j=>a i j*x j) c k hc]
  have e3:sumQ (fun j=>if c+1≤j then elimQ c a i j*x j else 0) k=sumQ (fun j=>if c+1≤j then a i j*x j else 0) k - a i c*(a c c)⁻¹*sumQ (fun j=>if c+1≤j then a c j*x j else 0) k:=by
    rw [←sumQ_mul,←sumQ_sub]
    refine sumQ_congr k (fun j hj=>?_)
    by_cases e:c+1≤j
    · simp only [if_pos e]
      unfold elimQ
      rw [if_pos ⟨by omega,by omega⟩,Rat.div_def];grind
    · simp only [if_neg e];grind
  rw [e3] at h
  have e4:elimQ c a i k=a i k - a i c*(a c c)⁻¹*a c k:=by
    unfold elimQ
    rw [if_pos ⟨by omega,by omega⟩,Rat.div_def]
  rw [e4] at h
  grind
theorem triQ_row (a:Nat→Nat→Rat) (i j:Nat):∀ d c,i≤c→triQ a (c+d) i j=triQ a c i j
  | 0,_,_=>rfl
  | d+1,c,h=>by
    show elimQ (c+d) (triQ a (c+d)) i j=_
    unfold elimQ
    rw [if_neg (by omega)]
    exact triQ_row a i j d c h
theorem solved {k:Nat} {a:Nat→Nat→Rat} (hm:MMat k 0 a) (x:Nat→Rat) (hx:∀ i,i<k→resid k i (triQ a k) x i=0):∀ i,i<k→resid k 0 a x i=0:=by
  have key:∀ d c,c+d=k→∀ i,c≤i→i<k→resid k c (triQ a c) x i=0:=by
    intro d
    induction d with
    | zero=>intro c hc i h1 h2;omega
    | succ d ih=>
      intro c hc i h1 h2
      have hck:c<k:=by omega
      have hp:=(hm.tri c (by omega)).pivot hck
      have h0:resid k c (triQ a c) x c=0:=by
        have:=hx c hck
        unfold resid at *
        have e:∀ j,triQ a k c j=triQ a c c j:=fun j=>by
          have:=triQ_row a c j (k - c) c (Nat.le_refl _)
          rwa [show c+(k - c)=k by omega] at this
        simp only [e] at this
        exact this
      by_cases e:i=c
      · subst e;exact h0
      · exact resid_step x hck (by grind) i (by omega) (ih (c+1) (by omega) i (by omega) h2) h0
  exact fun i hi=>key k 0 (by omega) i (Nat.zero_le _) hi
end Go.Proofs.YtolkchkedieppaaGreat
namespace Go.Proofs.YtolkchkedieppaaGreat
def stepI (p v:Nat) (A:Nat→Nat→Int) (r j:Nat):Int:=A p v*A r j - A r v*A p j
structure SysI (m n:Nat) (V:Nat→Prop) (A:Nat→Nat→Int) (B:Nat) (x:Nat→Rat):Prop where
  bnd:∀ r j,r<m→j≤n→(A r j).natAbs≤B
  out:∀ r j,r<m→j<n→V j→A r j=0
  sol:∀ r,r<m→sumQ (fun j=>(A r j:Rat)*x j) n=(A r n:Rat)
  ker:∀ z:Nat→Rat,(∀ j,j<n→V j→z j=0)→(∀ r,r<m→sumQ (fun j=>(A r j:Rat)*z j) n=0)→∀ j,j<n→z j=0
theorem stepI_sum (p v n:Nat) (A:Nat→Nat→Int) (r:Nat) (z:Nat→Rat):sumQ (fun j=>(stepI p v A r j:Rat)*z j) n=(A p v:Rat)*sumQ (fun j=>(A r j:Rat)*z j) n - (A r v:Rat)*sumQ (fun j=>(A p j:Rat)*z j) n:=by
  rw [←sumQ_mul,←sumQ_mul,←sumQ_sub]
  refine sumQ_congr n (fun j _=>?_)
  unfold stepI
  rw [Rat.intCast_sub,Rat.intCast_mul,Rat.intCast_mul]
  grind
theorem SysI.step {m n:Nat} {V:Nat→Prop} {A:Nat→Nat→Int} {B:Nat} {x:Nat→Rat} (h:SysI m n V A B x) (v:Nat) (hv:v<n) (hV:¬ V v):∃ A',SysI m n (fun j=>V j∨j=v) A' (2*(B*B)) x:=by
  obtain⟨p,hp,hne⟩:∃ p,p<m∧A p v≠0:=by
    refine Classical.byContradiction (fun hn=>?_)
    have hz:∀ r,r<m→A r v=0:=fun r hr=>Classical.byContradiction (fun h=>hn ⟨r,hr,h⟩)
    have:=h.ker (fun j=>if j=v then 1 else 0) (fun j _ hj=>by
      by_cases e:j=v
      · subst e;exact absurd hj hV
      · simp [e]) (fun r hr=>by
      rw [sumQ_one _ v n hv (fun i _ hi=>by simp [hi]),if_pos rfl,hz r hr]
      simp) v hv
    simp at this
  have hnq:(A p v:Rat)≠0:=by
    intro e
    have:((A p v:Int):Rat)=((0:Int):Rat):=e
    exact hne (Rat.intCast_inj.1 this)
  refine⟨stepI p v A,fun r j hr hj=>?_,fun r j hr hj hVj=>?_,fun r hr=>?_,fun z hz hs=>?_⟩
  · unfold stepI
    have h1:(A p v*A r j).natAbs≤B*B:=by rw [Int.natAbs_mul];exact Nat.mul_le_mul (h.bnd p v hp (by omega)) (h.bnd r j hr hj)
    have h2:(A r v*A p j).natAbs≤B*B:=by rw [Int.natAbs_mul];exact Nat.mul_le_mul (h.bnd r v hr (by omega)) (h.bnd p j hp hj)
    omega
  · unfold stepI
    rcases hVj with e | e
    · rw [h.out r j hr hj e,h.out p j hp hj e];simp
    · subst e;rw [Int.mul_comm];omega
  · rw [stepI_sum,h.sol r hr,h.sol p hp]
    unfold stepI
    rw [Rat.intCast_sub,Rat.intCast_mul,Rat.intCast_mul]
  · have hzv:z v=0:=hz v hv (.inr rfl)
    have e1:∀ r,r<m→sumQ (fun j=>(A r j:Rat)*(if j=v then - ((A p v:Rat)⁻¹*sumQ (fun j=>(A p j:Rat)*z j) n) else z j)) n=sumQ (fun j=>(A r j:Rat)*z j) n - (A r v:Rat)*((A p v:Rat)⁻¹*sumQ (fun j=>(A p j:Rat)*z j) n):=by
      intro r hr
      have e2:sumQ (fun j=>(A r j:Rat)*(if j=v then - ((A p v:Rat)⁻¹*sumQ (fun j=>(A p j:Rat)*z j) n) else z j)) n=sumQ (fun j=>(A r j:Rat)*z j+(if j=v then - ((A r v:Rat)*((A p v:Rat)⁻¹*sumQ (fun j=>(A p j:Rat)*z j) n)) else 0)) n:=
        sumQ_congr n (fun j _=>by
          by_cases e:j=v
          · subst e;simp only [if_pos rfl,hzv];grind
          · simp only [if_neg e];grind)
      rw [e2,sumQ_add,sumQ_one (fun j=>if j=v then - ((A r v:Rat)*((A p v:Rat)⁻¹*sumQ (fun j=>(A p j:Rat)*z j) n)) else 0) v n hv (fun i _ hi=>by simp [hi]),if_pos rfl]
      grind
    have e3:=h.ker (fun j=>if j=v then - ((A p v:Rat)⁻¹*sumQ (fun j=>(A p j:Rat)*z j) n) else z j) (fun j hj hVj=>by
      have hjv:j≠v:=fun e=>hV (e ▸ hVj)
      simp only [if_neg hjv]
      exact hz j hj (.inl hVj)) (fun r hr=>by
      rw [e1 r hr]
      have:=hs r hr
      rw [stepI_sum] at this
      generalize sumQ (fun j=>(A r j:Rat)*z j) n=s at this ⊢
      generalize sumQ (fun j=>(A p j:Rat)*z j) n=t at this ⊢
      have e4:(A p v:Rat)*(A p v:Rat)⁻¹=1:=by grind
      have e5:(A p v:Rat)⁻¹*((A p v:Rat)*s - (A r v:Rat)*t)=0:=by rw [this];grind
      grind)
    intro j hj
    by_cases e:j=v
    · subst e;exact hzv
    · have:=e3 j hj
      simp only [if_neg e] at this
      exact this
def bdI (B:Nat):Nat→Nat
  | 0=>B
  | c+1=>2*(bdI B c*bdI B c)
theorem bdI_le (B c:Nat):bdI B c≤bdI B (c+1):=by
  show bdI B c≤2*(bdI B c*bdI B c)
  have:=Nat.le_mul_self (bdI B c)
  omega
theorem SysI.mono {m n:Nat} {V W:Nat→Prop} {A:Nat→Nat→Int} {B C:Nat} {x:Nat→Rat} (h:SysI m n V A B x) (hVW:∀ j,j<n→(V j↔W j)) (hB:B≤C):SysI m n W A C x:=
  ⟨fun r j hr hj=>Nat.le_trans (h.bnd r j hr hj) hB,fun r j hr hj hw=>h.out r j hr hj ((hVW j hj).2 hw),h.sol,fun z hz hs=>h.ker z (fun j hj hv=>hz j hj ((hVW j hj).1 hv)) hs⟩
theorem SysI.all {m n:Nat} {A:Nat→Nat→Int} {B:Nat} {x:Nat→Rat} (h:SysI m n (fun _=>False) A B x) (t:Nat):∀ c,c≤n→∃ A',SysI m n (fun j=>j<c∧j≠t) A' (bdI B c) x
  | 0,_=>⟨A,h.mono (fun j _=>by simp) (Nat.le_refl _)⟩
  | c+1,hc=>by
    obtain⟨A',h'⟩:=SysI.all h t c (by omega)
    by_cases e:c=t
    · exact⟨A',h'.mono (fun j _=>by constructor <;> (intro q;omega)) (bdI_le B c)⟩
    · obtain⟨A2,h2⟩:=h'.step c (by omega) (by omega)
      exact⟨A2,h2.mono (fun j _=>by constructor <;> (intro q;omega)) (Nat.le_refl _)⟩
theorem SysI.bound {m n:Nat} {A:Nat→Nat→Int} {B:Nat} {x:Nat→Rat} (h:SysI m n (fun _=>False) A B x) (t:Nat) (ht:t<n):∃ p q:Int,q≠0∧p.natAbs≤bdI B n∧q.natAbs≤bdI B n∧(q:Rat)*x t=(p:Rat):=by
  obtain⟨A',h'⟩:=h.all t n (Nat.le_refl _)
  have hs:∀ (r:Nat) (z:Nat→Rat),r<m→sumQ (fun j=>(A' r j:Rat)*z j) n=(A' r t:Rat)*z t:=fun r z hr=>
    sumQ_one _ t n ht (fun i hi hn=>by rw [h'.out r i hr hi ⟨hi,hn⟩];simp)
  obtain⟨r,hr,hne⟩:∃ r,r<m∧A' r t≠0:=by
    refine Classical.byContradiction (fun hn=>?_)
    have hz:∀ r,r<m→A' r t=0:=fun r hr=>Classical.byContradiction (fun h=>hn ⟨r,hr,h⟩)
    have:=h'.ker (fun j=>if j=t then 1 else 0) (fun j _ hj=>by simp [hj.2]) (fun r hr=>by
      rw [hs r _ hr,hz r hr];simp) t ht
    simp at this
  refine⟨A' r n,A' r t,hne,h'.bnd r n hr (Nat.le_refl _),h'.bnd r t hr (by omega),?_⟩
  rw [←hs r x hr,h'.sol r hr]
theorem int_divInt (a:Int):(a:Rat)=Rat.divInt a 1:=by
  apply Rat.ext
  · rw [Rat.num_intCast,Rat.num_divInt];simp
  · rw [Rat.den_intCast,Rat.den_divInt];simp
theorem mul_den_num (w:Rat):w*(w.den:Rat)=(w.num:Rat):=by
  have a1:(w.den:Rat)=Rat.divInt (w.den:Int) 1:=int_divInt (w.den:Int)
  have a3:((w.den:Nat):Int)≠0:=by have:=w.den_pos;omega
  have a4:w=Rat.divInt w.num w.den:=(Rat.num_divInt_den w).symm
  rw [a1,int_divInt w.num]
  conv=>lhs;arg 1;rw [a4]
  rw [Rat.divInt_mul_divInt,Int.mul_comm (w.den:Int) 1,Rat.divInt_mul_right a3]
theorem lowest_le {w:Rat} {p q:Int} (hq:q≠0) (h:(q:Rat)*w=(p:Rat)):w.num.natAbs≤p.natAbs∧w.den≤q.natAbs:=by
  have e1:w.num*q=p*w.den:=by
    have e2:w=mkRat w.num w.den:=(Rat.mkRat_self w).symm
    have hd:(w.den:Rat)≠0:=by
      intro e
      have:((w.den:Int):Rat)=((0:Int):Rat):=e
      have:=Rat.intCast_inj.1 this
      have:=w.den_pos
      omega
    have e3:w*(w.den:Rat)=(w.num:Rat):=mul_den_num w
    have e4:((w.num*q:Int):Rat)=((p*w.den:Int):Rat):=by
      rw [Rat.intCast_mul,Rat.intCast_mul,←e3,←h]
      have:((w.den:Int):Rat)=(w.den:Rat):=rfl
      rw [this];grind
    exact Rat.intCast_inj.1 e4
  have e2:w.num.natAbs*q.natAbs=p.natAbs*w.den:=by
    have:=congrArg Int.natAbs e1
    simpa [Int.natAbs_mul] using this
  have hc:Nat.Coprime w.num.natAbs w.den:=w.reduced
  constructor
  · by_cases hp:p.natAbs=0
    · rw [hp] at e2
      have:0<q.natAbs:=by omega
      have:w.num.natAbs=0:=by
        rcases Nat.eq_zero_or_pos w.num.natAbs with h | h
        · exact h
        · have:=Nat.mul_pos h this;omega
      omega
    · exact Nat.le_of_dvd (by omega) (hc.dvd_of_dvd_mul_right ⟨_,e2.symm⟩)
  · exact Nat.le_of_dvd (by omega) (hc.symm.dvd_of_dvd_mul_left ⟨p.natAbs,by rw [e2,Nat.mul_comm]⟩)
end Go.Proofs.YtolkchkedieppaaGreat
namespace Go.Proofs.YtolkchkedieppaaGreat
theorem nl_lt (x:Nat):x<4294967296 ^ nl x:=(nl_le x (nl x)).1 (Nat.le_refl _)
theorem nl_mul_le (x y:Nat):nl (x*y)≤nl x+nl y:=by
  rw [nl_le,Nat.pow_add]
  exact Nat.mul_lt_mul'' (nl_lt x) (nl_lt y)
theorem nl_add_le {x y k:Nat} (hx:nl x≤k) (hy:nl y≤k):nl (x+y)≤k+1:=by
  rw [nl_le] at hx hy ⊢
  rw [Nat.pow_succ];omega
def szQ (q:Rat):Nat:=max (nl q.num.natAbs) (nl q.den)
theorem szQ_num (q:Rat):nl q.num.natAbs≤szQ q:=Nat.le_max_left _ _
theorem szQ_den (q:Rat):nl q.den≤szQ q:=Nat.le_max_right _ _
theorem szQ_le {q:Rat} {k:Nat} (h1:nl q.num.natAbs≤k) (h2:nl q.den≤k):szQ q≤k:=Nat.max_le.2 ⟨h1,h2⟩
theorem szQ_quot {w:Rat} {p q:Int} {k:Nat} (hq:q≠0) (h:(q:Rat)*w=(p:Rat)) (h1:nl p.natAbs≤k) (h2:nl q.natAbs≤k):szQ w≤k:=by
  obtain⟨e1,e2⟩:=lowest_le hq h
  exact szQ_le (Nat.le_trans (nl_mono e1) h1) (Nat.le_trans (nl_mono e2) h2)
theorem den_ne (q:Rat):(q.den:Int)≠0:=by have:=q.den_pos;omega
theorem den_mul (q:Rat):((q.den:Int):Rat)*q=(q.num:Rat):=by
  have:=mul_den_num q
  have e:((q.den:Int):Rat)=(q.den:Rat):=rfl
  rw [e];grind
theorem szQ_mul (a b:Rat):szQ (a*b)≤szQ a+szQ b:=by
  refine szQ_quot (p:=a.num*b.num) (q:=(a.den:Int)*(b.den:Int)) (Int.mul_ne_zero (den_ne a) (den_ne b)) ?_ ?_ ?_
  · rw [Rat.intCast_mul,Rat.intCast_mul,←den_mul a,←den_mul b];grind
  · rw [Int.natAbs_mul]
    have:=nl_mul_le a.num.natAbs b.num.natAbs
    have:=szQ_num a;have:=szQ_num b;omega
  · rw [Int.natAbs_mul,Int.natAbs_natCast,Int.natAbs_natCast]
    have:=nl_mul_le a.den b.den
    have:=szQ_den a;have:=szQ_den b;omega
theorem szQ_add (a b:Rat):szQ (a+b)≤szQ a+szQ b+1:=by
  refine szQ_quot (p:=a.num*(b.den:Int)+b.num*(a.den:Int)) (q:=(a.den:Int)*(b.den:Int)) (Int.mul_ne_zero (den_ne a) (den_ne b)) ?_ ?_ ?_
  · rw [Rat.intCast_add,Rat.intCast_mul,Rat.intCast_mul,Rat.intCast_mul,←den_mul a,←den_mul b];grind
  · refine Nat.le_trans (nl_mono (Int.natAbs_add_le _ _)) ?_
    rw [Int.natAbs_mul,Int.natAbs_mul,Int.natAbs_natCast,Int.natAbs_natCast]
    have h1:=nl_mul_le a.num.natAbs b.den
    have h2:=nl_mul_le b.num.natAbs a.den
    have:=szQ_num a;have:=szQ_num b
    have:=szQ_den a;have:=szQ_den b
    exact nl_add_le (by omega) (by omega)
  · rw [Int.natAbs_mul,Int.natAbs_natCast,Int.natAbs_natCast]
    have:=nl_mul_le a.den b.den
    have:=szQ_den a;have:=szQ_den b;omega
theorem szQ_neg (a:Rat):szQ (-a)=szQ a:=by
  unfold szQ;rw [Rat.neg_num,Rat.neg_den,Int.natAbs_neg]
theorem szQ_sub (a b:Rat):szQ (a - b)≤szQ a+szQ b+1:=by
  rw [Rat.sub_eq_add_neg]
  have:=szQ_add a (-b)
  rwa [szQ_neg] at this
theorem szQ_int (n:Int) (h:n.natAbs<4294967296 ^ 2):szQ (n:Rat)≤2:=by
  refine szQ_le ?_ ?_
  · rw [Rat.num_intCast,nl_le];exact h
  · rw [Rat.den_intCast,nl_le];decide
theorem tri_solution (n:Nat) (t:Nat→Nat→Rat) (hp:∀ i,i<n→t i i≠0):∃ x:Nat→Rat,∀ i,i<n→resid n i t x i=0:=by
  have key:∀ d c,c+d=n→∃ x:Nat→Rat,∀ i,c≤i→i<n→resid n i t x i=0:=by
    intro d
    induction d with
    | zero=>intro c hc;exact⟨fun _=>0,fun i h1 h2=>by omega⟩
    | succ d ih=>
      intro c hc
      obtain⟨x,hx⟩:=ih (c+1) (by omega)
      refine⟨fun j=>if j=c then (t c n - sumQ (fun j=>if c+1≤j then t c j*x j else 0) n) / t c c else x j,fun i h1 h2=>?_⟩
      by_cases e:i=c
      · subst e
        unfold resid
        rw [sumQ_split (fun j=>t i j*(if j=i then (t i n - sumQ (fun j=>if i+1≤j then t i j*x j else 0) n) / t i i else x j)) i n h2,if_pos rfl]
        rw [sumQ_congr n (g:=fun j=>if i+1≤j then t i j*x j else 0) (fun j hj=>by
          by_cases e:i+1≤j
          · have hji:j≠i:=by omega
            simp only [if_pos e,if_neg hji]
          · simp only [if_neg e])]
        have:=hp i h2
        rw [Rat.div_def]
        grind
      · have h3:=hx i (by omega) h2
        unfold resid at h3 ⊢
        rw [sumQ_congr n (g:=fun j=>if i≤j then t i j*x j else 0) (fun j hj=>by
          by_cases e:i≤j
          · simp only [if_pos e];rw [if_neg (by omega)]
          · simp only [if_neg e])]
        exact h3
  obtain⟨x,hx⟩:=key n 0 (by omega)
  exact⟨x,fun i hi=>hx i (Nat.zero_le _) hi⟩
def backS (t:Nat→Nat→Rat) (x:Nat→Rat) (n i:Nat):Nat→Rat
  | 0=>t i n
  | d+1=>backS t x n i d - t i (i+1+d)*x (i+1+d)
theorem backS_sum (t:Nat→Nat→Rat) (x:Nat→Rat) (n i:Nat):∀ d,backS t x n i d=t i n - sumQ (fun j=>if i+1≤j then t i j*x j else 0) (i+1+d)
  | 0=>by
    rw [sumQ_eq_zero _ (fun j hj=>if_neg (by omega))]
    simp only [backS];grind
  | d+1=>by
    simp only [backS]
    rw [backS_sum t x n i d,show i+1+(d+1)=i+1+d+1 by omega]
    simp only [sumQ]
    rw [if_pos (by omega)];grind
theorem back_div (t:Nat→Nat→Rat) (x:Nat→Rat) (n i:Nat) (hi:i<n) (hp:t i i≠0) (h:resid n i t x i=0):backS t x n i (n - (i+1)) / t i i=x i:=by
  rw [backS_sum,show i+1+(n - (i+1))=n by omega]
  unfold resid at h
  rw [sumQ_split (fun j=>t i j*x j) i n hi] at h
  rw [Rat.div_def]
  have h2:t i n - sumQ (fun j=>if i+1≤j then t i j*x j else 0) n=t i i*x i:=by grind
  rw [h2];grind
theorem szQ_back {A X:Nat} (t:Nat→Nat→Rat) (x:Nat→Rat) (n i:Nat) (hA:∀ j,j≤n→szQ (t i j)≤A) (hX:∀ j,j<n→szQ (x j)≤X):∀ d,i+1+d≤n→szQ (backS t x n i d)≤A+d*(A+X+1)
  | 0,h=>by simp only [backS];have:=hA n (Nat.le_refl _);omega
  | d+1,h=>by
    have h1:=szQ_back t x n i hA hX d (by omega)
    have h2:=hA (i+1+d) (by omega)
    have h3:=hX (i+1+d) (by omega)
    have h4:=szQ_sub (backS t x n i d) (t i (i+1+d)*x (i+1+d))
    have h5:=szQ_mul (t i (i+1+d)) (x (i+1+d))
    simp only [backS]
    rw [Nat.add_mul,Nat.one_mul]
    omega
end Go.Proofs.YtolkchkedieppaaGreat
namespace Go.Proofs.YtolkchkedieppaaGreat
open Go.RowKit
attribute [local go_sem ↓] Go.wp_at_zero Go.wp_at_succ
theorem RatIs.tight {w:World} {v:Value} {q:Rat} {m n:Nat} (h:RatIs w v q m) (hn:szQ q≤n):RatIs w v q n:=by
  obtain⟨u,d,rfl,h1,h2,_,_⟩:=h
  exact⟨u,d,rfl,h1,h2,Nat.le_trans (szQ_num q) hn,Nat.le_trans (szQ_den q) hn⟩
theorem RatIs.sz {w:World} {v:Value} {q:Rat} {m:Nat} (h:RatIs w v q m):szQ q≤m:=by
  obtain⟨u,d,rfl,_,_,h3,h4⟩:=h
  exact szQ_le h3 h4
theorem RowP.far4 {w : World} {g n K b o : Nat} {P : Nat → Prop} {q : Nat → Rat} {s t : Bool} {a a2 : Option Addr} {m c m2 c2 : Nat} (h : RowP w g n P q K) (u0 u1 u2 u3 : Value)
    (hr:Rd4 w b o (.bool s) (.slice a m c) (.bool t) (.slice a2 m2 c2)) (hne:b≠g):RowP (st4 w b o u0 u1 u2 u3) g n P q K:=
  ⟨fun j hj=>by
    obtain⟨s',a',m',c',a2',m2',c2',h1,h2⟩:=h.cell j hj
    exact⟨s',a',m',c',a2',m2',c2',h1.far _ _ _ _ hne,fun p=>(h2 p).at4 _ _ _ _ hr⟩,
   fun o'=>by rw [frozen_st4];exact h.f o',by rw [size_st4];exact h.lt⟩
structure RMat (w:World) (B g k cols:Nat) (rb rc:Nat→Nat) (Q:Nat→Nat→Rat) (K:Nat):Prop where
  hdr:∀ i,i<k→w.cell? ⟨g,i,none⟩=some (.slice (some ⟨rb i,0,none⟩) cols (rc i))
  hf:∀ o,w.frozen? ⟨g,o,none⟩=false
  gB:B≤g
  gl:g<w.heap.size
  row:∀ i,i<k→RatRow w (rb i) cols (Q i) K
  rB:∀ i,i<k→B≤rb i
  ne:∀ i,i<k→rb i≠g
  apart:∀ i j,i<k→j<k→i≠j→rb i≠rb j
section
variable {w w':World} {B g k cols K B':Nat} {rb rc:Nat→Nat} {Q:Nat→Nat→Rat}
theorem RMat.below (h:RMat w B g k cols rb rc Q K) (hb:Below B' w w') (hB:w.heap.size≤B'):RMat w' B g k cols rb rc Q K:=
  ⟨fun i hi=>bel1 hb (h.hdr i hi) (Nat.lt_of_lt_of_le h.gl hB),fun o=>(hb.frozen (p:=⟨g,o,none⟩) (Nat.lt_of_lt_of_le h.gl hB)).trans (h.hf o),h.gB,Nat.lt_of_lt_of_le h.gl hb.size,
   fun i hi=>(h.row i hi).below hb hB,h.rB,h.ne,h.apart⟩
theorem RMat.alloc (h:RMat w B g k cols rb rc Q K) (o:Obj):RMat (w.alloc o) B g k cols rb rc Q K:=h.below ((Below.refl w.heap.size w).alloc (Nat.le_refl _) o) (Nat.le_refl _)
theorem RMat.le {K':Nat} (h:RMat w B g k cols rb rc Q K) (hK:K≤K'):RMat w B g k cols rb rc Q K':=⟨h.hdr,h.hf,h.gB,h.gl,fun i hi=>(h.row i hi).le hK,h.rB,h.ne,h.apart⟩
theorem RMat.congr {Q':Nat→Nat→Rat} (h:RMat w B g k cols rb rc Q K) (e:∀ i j,i<k→j<cols→Q i j=Q' i j):RMat w B g k cols rb rc Q' K:=
  ⟨h.hdr,h.hf,h.gB,h.gl,fun i hi=>(h.row i hi).congr (fun j hj _=>⟨trivial,e i j hi hj⟩),h.rB,h.ne,h.apart⟩
def updM (Q:Nat→Nat→Rat) (i j:Nat) (x:Rat) (r c:Nat):Rat:=if r=i∧c=j then x else Q r c
theorem RMat.set {i j : Nat} {x : Rat} {s : Bool} {a a2 : Option Addr} {m c m2 c2 : Nat} (h : RMat w B g k cols rb rc Q K) (hi : i < k) (hj : j < cols)
    (hx:RatIs w (.agg #[.bool s,.slice a m c,.bool false,.slice a2 m2 c2]) x K) :
    RMat (st4 w (rb i) (j*4) (.bool s) (.slice a m c) (.bool false) (.slice a2 m2 c2)) B g k cols rb rc (updM Q i j x) K:=by
  obtain⟨s',a',m',c',a2',m2',c2',hr,_⟩:=(h.row i hi).cell j hj
  refine⟨fun r hr2=>(far4 _ _ _ _ (h.ne i hi)).trans (h.hdr r hr2),fun o=>by rw [frozen_st4];exact h.hf o,h.gB,by rw [size_st4];exact h.gl,fun r hr2=>?_,h.rB,h.ne,h.apart⟩
  by_cases e:r=i
  · subst e
    refine ((h.row r hi).set hj rfl hx).congr (fun l hl _=>?_)
    by_cases e2:l=j
    · exact⟨.inl e2,by simp [updQ,updM,e2]⟩
    · exact⟨.inr trivial,by simp [updQ,updM,e2]⟩
  · refine ((h.row r hr2).far4 _ _ _ _ hr (h.apart i r hi hr2 (fun q=>e q.symm))).congr (fun l hl _=>⟨trivial,?_⟩)
    simp [updM,e]
theorem RMat.far {b o : Nat} {s t : Bool} {a a2 : Option Addr} {m c m2 c2 : Nat} (h : RMat w B g k cols rb rc Q K) (u0 u1 u2 u3 : Value)
    (hr:Rd4 w b o (.bool s) (.slice a m c) (.bool t) (.slice a2 m2 c2)) (hg:b≠g) (hb:∀ i,i<k→b≠rb i):RMat (st4 w b o u0 u1 u2 u3) B g k cols rb rc Q K:=
  ⟨fun r hr2=>(far4 _ _ _ _ hg).trans (h.hdr r hr2),fun o=>by rw [frozen_st4];exact h.hf o,h.gB,by rw [size_st4];exact h.gl,fun r hr2=>(h.row r hr2).far4 _ _ _ _ hr (hb r hr2),h.rB,h.ne,h.apart⟩
end
theorem rat_zero (w:World):Calls Tryz.prog 112 #[.int .i64 0] w fun e w'=>∃ s a n c a2 n2 c2,e = .returned (.agg #[.bool s,.slice a n c,.bool false,.slice a2 n2 c2])∧Hid (RatIs w' (.agg #[.bool s,.slice a n c,.bool false,.slice a2 n2 c2]) 0 2)∧Below w.heap.size w w':=by
  refine (rat_whole 0 (by omega) (by omega) w).mono ?_
  rintro e w' ⟨r,rfl,hr,hb⟩
  obtain⟨s,a,n,c,a2,n2,c2,rfl,H⟩:=hr.shape
  exact⟨s,a,n,c,a2,n2,c2,rfl,H,hb⟩
def hdrV (rb:Nat→Nat) (n k i:Nat):Value:=if i<k then .slice (some ⟨rb i,0,none⟩) n n else .slice none 0 0
set_option maxHeartbeats 2000000 in
theorem zero_any (n : Nat) (h0 : 0 < n) (hn : n ≤ 24) (w : World) :
    Calls Tryz.prog 110 #[.int .i64 (n:Nat),.int .i64 (n:Nat)] w fun e w'=>∃ g rb,e = .returned (.slice (some ⟨g,0,none⟩) n n)∧RMat w' w.heap.size g n n rb (fun _=>n) (fun _ _=>0) 2∧Below w.heap.size w w':=by
  have hmk:=mkMn n (by omega)
  have HROW:Hid ((w.alloc (.cells (madeCells #[.slice none 0 0] n) 107)).rowIs w.heap.size 107 n (hdrV (fun _=>0) n 0)):=Lib.hid ((World.rowIs_made w (.slice none 0 0) n 107).congr (fun i hi=>by unfold hdrV;rw [if_neg (by omega)]))
  have KW0:=Lib.hid ((Below.refl w.heap.size w).alloc (Nat.le_refl _) (.cells (madeCells #[.slice none 0 0] n) 107))
  go_enter Tryz.func110,Tryz.ntmps110
  go_wp2
  go_loopw [6,11] (fun v6 v11 wr=>∃ k:Nat,k≤n∧v11 = .int .i64 (k:Nat)∧∃ rb,Hid (wr.rowIs w.heap.size 107 n (hdrV rb n k))∧Hid (∀ i,i<k→RatRow wr (rb i) n (fun _=>0) 2∧w.heap.size<rb i)∧Hid (∀ i j,i<j→j<k→rb i≠rb j)∧Hid (Below w.heap.size w wr)) (fun _ v11 _=>n - (intOf v11).toNat)
  case atStart=>exact⟨0,by omega,rfl,_,HROW,Lib.hid (fun i hi=>by omega),Lib.hid (fun i j h1 h2=>by omega),KW0⟩
  case round=>
    clear HROW KW0
    obtain⟨k,hk,rfl,rb,HROW,HR,HA,KW⟩:=hrel
    by_cases h:k<n
    · have ix1:=fun W=>ixL w.heap.size 0 n n k h W
      simp only [Nat.zero_add] at ix1
      have HWL:=Lib.hid HROW.out.lt
      go_wp2_with (first
        | (go_at_call 112;(with_reducible refine (rat_zero _).mono ?_);rintro e w1 ⟨s1,a1,n1,c1,b1,m1,d1,rfl,K1,hb1⟩;have HB1:=Lib.hid hb1;clear hb1)
        | (go_at_call 113;go_loud ((with_reducible refine (repeat_rat _ _ n 0 2 _ _ _ _ _ _ _ _ h0 hn (own4_new _ _ rfl _ _ _ _ _) (K1.out.mono (boxes1 _ _) (Nat.le_refl _))).mono ?_);rintro e w2 ⟨R,rfl,PR,hRg,hb2⟩;have HB2:=Lib.hid (HB1.out.trans (((boxes1 w1 (.cells #[.bool s1,.slice a1 n1 c1,.bool false,.slice b1 m1 d1] 115)).trans (hb2.mono (by simp))).mono HB1.out.size));have KW:=Lib.hid (KW.out.trans (HB2.out.mono KW.out.size));have HRG:Hid (wr.heap.size≤R):=Lib.hid (by have:=HB1.out.size;simp at hRg;omega);have PR:=Lib.hid PR;have HROW:=Lib.hid (rowIs_below HROW.out HB2.out HROW.out.lt);have hc:=HROW.out.cell h;have hfz:=HROW.out.frozen k;clear hb2 hRg;have hc0:hdrV rb n k k = .slice none 0 0:=(by unfold hdrV;rw [if_neg (by omega)]);rw [hc0] at hc;clear hc0)))
      go_roundw
      case rel=>
        have hlt:∀ i,i<k→rb i<wr.heap.size:=fun i hi=>(HR.out i hi).1.lt
        refine⟨k+1,by omega,by go_num,setN rb k R,Lib.hid ((HROW.out.set k _).congr (fun i hi=>?_)),Lib.hid (fun i hi=>?_),Lib.hid (fun i j h1 h2=>?_),Lib.hid (KW.out.setCell (Nat.le_refl _) _)⟩
        · unfold hdrV
          by_cases e:i=k
          · subst e;rw [if_pos rfl,if_pos (by omega),setN_self]
          · rw [if_neg e,setN_ne _ _ e]
            by_cases e2:i<k
            · rw [if_pos e2,if_pos (by omega)]
            · rw [if_neg e2,if_neg (by omega)]
        · have hsz:=HROW.out.lt
          by_cases e:i=k
          · subst e;rw [setN_self]
            have h1:=HRG.out
            have h2:=HWL.out
            exact⟨RowP.storeFar PR.out _ hc (noInt_slice _ _ _) (by omega),by omega⟩
          · rw [setN_ne _ _ e]
            have h3:=HR.out i (by omega)
            exact⟨RowP.storeFar (h3.1.below HB2.out (Nat.le_refl _)) _ hc (noInt_slice _ _ _) (by omega),h3.2⟩
        · by_cases e:j=k
          · subst e;rw [setN_self,setN_ne _ _ (by omega)]
            have h1:=hlt i h1;have:=HRG.out;omega
          · rw [setN_ne _ _ e,setN_ne _ _ (by omega)];exact HA.out i j h1 (by omega)
      case measure=>simp [intOf];omega
    · obtain rfl:k=n:=by omega
      go_wp2
      go_ret
      refine⟨w.heap.size,rb,rfl,⟨fun i hi=>?_,fun o=>HROW.out.frozen o,Nat.le_refl _,HROW.out.lt,fun i hi=>(HR.out i hi).1,fun i hi=>Nat.le_of_lt (HR.out i hi).2,fun i hi=>by have:=(HR.out i hi).2;omega,fun i j hi hj hij=>?_⟩,KW.out⟩
      · rw [HROW.out.cell hi];unfold hdrV;rw [if_pos hi]
      · rcases Nat.lt_or_gt_of_ne hij with h1 | h1
        · exact HA.out i j h1 hj
        · exact fun e=>HA.out j i h1 hi e.symm
end Go.Proofs.YtolkchkedieppaaGreat
