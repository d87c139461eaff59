import Derived.Test.YtolkchkedieppaaGreatZPlainKi
import Derived.Test.YtolkchkedieppaaGreatZLivH
import Derived.Test.YtolkchkedieppaaGreatZPlainR
set_option linter.unusedVariables false
set_option linter.unusedSimpArgs false
namespace Go.Proofs.YtolkchkedieppaaGreat
open Go.RowKit
def gC (c:Nat→Nat):Nat→Nat
 | 0=>0
 | k+1=>Nat.gcd (gC c k) (c k)
theorem gC_dvd (c:Nat→Nat):∀ m k,k<m→gC c m ∣ c k
 | 0,k,h=>by omega
 | m+1,k,h=>by
  show Nat.gcd (gC c m) (c m) ∣ c k
  by_cases e:k=m
  ·rw [e];exact Nat.gcd_dvd_right _ _
  ·exact Nat.dvd_trans (Nat.gcd_dvd_left _ _) (gC_dvd c m k (by omega))
structure FrcP (m:Nat) (q:Nat→Rat) (c:Nat→Nat) (W:Nat):Prop where
 w1:1≤W
 w2:W≤1000
 c1:∀ k,k<m→1≤c k∧c k≤1000
 e:∀ k,k<m→q k=((c k:Nat):Rat) / ((W:Nat):Rat)
theorem natQ_inj {a b:Nat} (h:((a:Nat):Rat)=((b:Nat):Rat)):a=b:=by exact_mod_cast h
theorem natQ_ne {a:Nat} (h:1≤a):((a:Nat):Rat)≠0:=fun e=>by
 have:a=0:=natQ_inj (b:=0) e
 omega
theorem intQ_inj {a b:Int} (h:((a:Int):Rat)=((b:Int):Rat)):a=b:=by exact_mod_cast h
section
variable {m:Nat} {q:Nat→Rat} {c:Nat→Nat} {W:Nat} (h:FrcP m q c W)
include h
omit h in
theorem nl_small {x:Nat} (h:x<4294967296):nl x≤1:=(nl_le x 1).2 (by simpa using h)
omit h in
end
section
variable {S J:List Tr} {W H:Nat} (h:NetP S J W H)
include h
end
end Go.Proofs.YtolkchkedieppaaGreat
namespace Go.Proofs.YtolkchkedieppaaGreat
def mrg (f:Nat→Nat) (x y:Nat):Nat→Nat:=fun i=>if f i=x then y else f i
theorem mrg_eq {f:Nat→Nat} {x y i:Nat} (h:f i=x):mrg f x y i=y:=if_pos h
theorem mrg_ne {f:Nat→Nat} {x y i:Nat} (h:f i≠x):mrg f x y i=f i:=if_neg h
def lab (a b:Nat→Nat) (S:Nat→Bool):Nat→Nat→Nat
 | 0=>fun i=>i
 | k+1=>if S k=true then mrg (lab a b S k) (lab a b S k (a k)) (lab a b S k (b k)) else lab a b S k
def mcn (a b:Nat→Nat) (S:Nat→Bool):Nat→Nat
 | 0=>0
 | k+1=>mcn a b S k+(if S k=true∧lab a b S k (a k)≠lab a b S k (b k) then 1 else 0)
def crd (S:Nat→Bool):Nat→Nat
 | 0=>0
 | k+1=>crd S k+(if S k=true then 1 else 0)
def fxc (f:Nat→Nat):Nat→Nat
 | 0=>0
 | n+1=>fxc f n+(if f n=n then 1 else 0)
def putB (S:Nat→Bool) (k:Nat):Nat→Bool:=fun j=>if j=k then true else S j
def cutB (S:Nat→Bool) (k:Nat):Nat→Bool:=fun j=>if j=k then false else S j
theorem fxc_id:∀ n,fxc (fun i=>i) n=n
 | 0=>rfl
 | n+1=>by simp only [fxc,fxc_id n,if_true]
theorem fxc_congr {f g:Nat→Nat} : ∀ n,(∀ i,i<n→(f i=i↔g i=i))→fxc f n=fxc g n
 | 0,_=>rfl
 | n+1,h=>by
  simp only [fxc]
  rw [fxc_congr n (fun i hi=>h i (by omega))]
  have:=h n (by omega)
  by_cases e:f n=n
  ·rw [if_pos e,if_pos (this.1 e)]
  ·rw [if_neg e,if_neg (fun q=>e (this.2 q))]
theorem fxc_drop {f g:Nat→Nat} {x:Nat} : ∀ n,x<n→f x=x→g x≠x→(∀ i,i<n→i≠x→(f i=i↔g i=i))→fxc f n=fxc g n+1
 | 0,h,_,_,_=>by omega
 | n+1,h,h1,h2,h3=>by
  simp only [fxc]
  by_cases e:x=n
  ·subst e
   rw [fxc_congr x (fun i hi=>h3 i (by omega) (by omega)),if_pos h1,if_neg h2]
  ·rw [fxc_drop n (by omega) h1 h2 (fun i hi=>h3 i (by omega))]
   have:=h3 n (by omega) (fun q=>e q.symm)
   by_cases q:f n=n
   ·rw [if_pos q,if_pos (this.1 q)]
   ·rw [if_neg q,if_neg (fun q2=>q (this.2 q2))]
theorem fxc_one {f:Nat→Nat} : ∀ n,fxc f n≤1→∀ p q,p<n→q<n→f p=p→f q=q→p=q
 | 0,_,p,q,h,_,_,_=>by omega
 | n+1,h,p,q,hp,hq,fp,fq=>by
  simp only [fxc] at h
  have z:∀ n,fxc f n=0→∀ p,p<n→f p≠p:=fun n=>by
   induction n with
   | zero=>intro _ p hp;omega
   | succ n ih=>
    intro h0 p hp e
    simp only [fxc] at h0
    by_cases q:p=n
    ·subst q;rw [if_pos e] at h0;omega
    ·exact ih (by omega) p (by omega) e
  by_cases e:f n=n
  ·rw [if_pos e] at h
   have h0:=z n (by omega)
   by_cases e1:p=n
   ·by_cases e2:q=n
    ·omega
    ·exact absurd fq (h0 q (by omega))
   ·exact absurd fp (h0 p (by omega))
  ·rw [if_neg e] at h
   by_cases e1:p=n
   ·subst e1;exact absurd fp e
   ·by_cases e2:q=n
    ·subst e2;exact absurd fq e
    ·exact fxc_one n (by omega) p q (by omega) (by omega) fp fq
theorem fxc_two {f:Nat→Nat} : ∀ n,2≤fxc f n→∃ p q,p<n∧q<n∧f p=p∧f q=q∧p≠q
 | 0,h=>by simp only [fxc] at h;omega
 | n+1,h=>by
  by_cases e2:2≤fxc f n
  ·obtain⟨p,q,h1,h2,h3⟩:=fxc_two n e2
   exact⟨p,q,by omega,by omega,h3⟩
  ·have one:∀ n,1≤fxc f n→∃ p,p<n∧f p=p:=fun n=>by
    induction n with
    | zero=>intro h;simp only [fxc] at h;omega
    | succ n ih=>
     intro h
     simp only [fxc] at h
     by_cases e:f n=n
     ·exact⟨n,by omega,e⟩
     ·rw [if_neg e] at h
      obtain⟨p,h1,h2⟩:=ih (by omega)
      exact⟨p,by omega,h2⟩
   simp only [fxc] at h
   by_cases e:f n=n
   ·rw [if_pos e] at h
    obtain⟨p,h1,h2⟩:=one n (by omega)
    exact⟨p,n,by omega,by omega,h2,e,by omega⟩
   ·rw [if_neg e] at h;omega
structure Gra (n m:Nat) (a b:Nat→Nat):Prop where
 pos:0<n
 a:∀ k,k<m→a k<n
 b:∀ k,k<m→b k<n
def Flat (m:Nat) (a b:Nat→Nat) (S:Nat→Bool) (u:Nat→Rat):Prop:=∀ k,k<m→S k=true→u (a k)=u (b k)
def Conn (n m:Nat) (a b:Nat→Nat) (S:Nat→Bool):Prop:=∀ u,Flat m a b S u→∀ i j,i<n→j<n→u i=u j
section
variable {n m:Nat} {a b:Nat→Nat} {S:Nat→Bool}
theorem lab_idem (a b:Nat→Nat) (S:Nat→Bool):∀ k i,lab a b S k (lab a b S k i)=lab a b S k i
 | 0,i=>rfl
 | k+1,i=>by
  have ih:=lab_idem a b S k
  simp only [lab]
  by_cases e:S k=true
  ·rw [if_pos e]
   by_cases e1:lab a b S k i=lab a b S k (a k)
   ·rw [mrg_eq e1]
    by_cases e2:lab a b S k (lab a b S k (b k))=lab a b S k (a k)
    ·rw [mrg_eq e2]
    ·rw [mrg_ne e2,ih]
   ·rw [mrg_ne e1,mrg_ne (by rw [ih];exact e1),ih]
  ·rw [if_neg e];exact ih i
theorem lab_lt (h:Gra n m a b):∀ k,k≤m→∀ i,i<n→lab a b S k i<n
 | 0,_,i,hi=>hi
 | k+1,hk,i,hi=>by
  have ih:=lab_lt h k (by omega)
  simp only [lab]
  split
  ·simp only [mrg]
   split
   ·exact ih _ (h.b k (by omega))
   ·exact ih i hi
  ·exact ih i hi
theorem lab_flat {u:Nat→Rat} (hu:Flat m a b S u):∀ k,k≤m→∀ i,u (lab a b S k i)=u i
 | 0,_,i=>rfl
 | k+1,hk,i=>by
  have ih:=lab_flat hu k (by omega)
  simp only [lab]
  by_cases e:S k=true
  ·rw [if_pos e]
   by_cases e1:lab a b S k i=lab a b S k (a k)
   ·rw [mrg_eq e1,ih,←hu k (by omega) e,←ih (a k),←e1,ih]
   ·rw [mrg_ne e1,ih]
  ·rw [if_neg e];exact ih i
theorem lab_on:∀ k j,j<k→S j=true→lab a b S k (a j)=lab a b S k (b j)
 | 0,j,h,_=>by omega
 | k+1,j,h,hj=>by
  simp only [lab]
  by_cases e:j=k
  ·subst e
   rw [if_pos hj]
   simp only [mrg,if_true]
   split <;> rfl
  ·have ih:=lab_on k j (by omega) hj
   by_cases e1:S k=true
   ·rw [if_pos e1];simp only [mrg,ih]
   ·rw [if_neg e1];exact ih
theorem lab_cnt (h:Gra n m a b):∀ k,k≤m→fxc (lab a b S k) n+mcn a b S k=n
 | 0,_=>by simp only [mcn,Nat.add_zero];exact fxc_id n
 | k+1,hk=>by
  have ih:=lab_cnt h k (by omega)
  have id:=lab_idem a b S k
  have l1:=lab_lt (S:=S) h k (by omega) (a k) (h.a k (by omega))
  have e0:lab a b S (k+1)=if S k=true then mrg (lab a b S k) (lab a b S k (a k)) (lab a b S k (b k)) else lab a b S k:=rfl
  rw [e0]
  simp only [mcn]
  by_cases e:S k=true
  ·rw [if_pos e]
   by_cases e1:lab a b S k (a k)=lab a b S k (b k)
   ·rw [if_neg (fun q=>q.2 e1)]
    have:mrg (lab a b S k) (lab a b S k (a k)) (lab a b S k (b k))=lab a b S k:=by
     funext i;simp only [mrg];split
     ·rename_i q;rw [q,e1]
     ·rfl
    rw [this];exact ih
   ·rw [if_pos ⟨e,e1⟩]
    have:=fxc_drop (f:=lab a b S k) (g:=mrg (lab a b S k) (lab a b S k (a k)) (lab a b S k (b k))) (x:=lab a b S k (a k)) n l1 (id _) (by
     simp only [mrg,id,if_true];exact fun q=>e1 q.symm) (fun i hi hne=>by
      simp only [mrg]
      by_cases q:lab a b S k i=lab a b S k (a k)
      ·rw [if_pos q,q]
       constructor
       ·intro q2;exact absurd q2.symm hne
       ·intro q2
        have:=id (b k)
        rw [q2] at this
        rw [this] at q
        exact absurd q hne
      ·rw [if_neg q])
    omega
  ·rw [if_neg e,if_neg (fun q=>e q.1)];exact ih
theorem mcn_crd (a b:Nat→Nat) (S:Nat→Bool):∀ k,mcn a b S k≤crd S k
 | 0=>Nat.le_refl _
 | k+1=>by
  have:=mcn_crd a b S k
  simp only [mcn,crd]
  by_cases e:S k=true
  ·rw [if_pos e];split <;> omega
  ·rw [if_neg e,if_neg (fun q=>e q.1)];exact this
theorem lab_ind (p:Nat):Flat m a b S (fun i=>if lab a b S m i=p then 1 else 0):=fun k hk hs=>by
 show (if lab a b S m (a k)=p then (1:Rat) else 0)=if lab a b S m (b k)=p then 1 else 0
 rw [lab_on m k hk hs]
theorem conn_of (h:Gra n m a b) (hm:n - 1≤mcn a b S m):Conn n m a b S:=fun u hu i j hi hj=>by
 have h1:=lab_cnt (S:=S) h m (Nat.le_refl _)
 have h2:=fxc_one n (f:=lab a b S m) (by have:=h.pos;omega) _ _ (lab_lt h m (Nat.le_refl _) i hi) (lab_lt h m (Nat.le_refl _) j hj) (lab_idem _ _ _ _ _) (lab_idem _ _ _ _ _)
 rw [←lab_flat hu m (Nat.le_refl _) i,←lab_flat hu m (Nat.le_refl _) j,h2]
theorem conn_lab (h:Conn n m a b S) {i j:Nat} (hi:i<n) (hj:j<n):lab a b S m i=lab a b S m j:=by
 have:=h _ (lab_ind (lab a b S m j)) i j hi hj
 simp only [if_true] at this
 by_cases e:lab a b S m i=lab a b S m j
 ·exact e
 ·rw [if_neg e] at this;exact absurd this (by decide)
theorem conn_mcn (h:Gra n m a b) (hc:Conn n m a b S):mcn a b S m=n - 1:=by
 have h1:=lab_cnt (S:=S) h m (Nat.le_refl _)
 have h2:¬ 2≤fxc (lab a b S m) n:=fun h2=>by
  obtain⟨p,q,hp,hq,e1,e2,e3⟩:=fxc_two n h2
  exact e3 (by rw [←e1,←e2];exact conn_lab hc hp hq)
 have h3:fxc (lab a b S m) n≠0:=fun h3=>by
  have l0:=lab_lt (S:=S) h m (Nat.le_refl _) 0 h.pos
  have d:=fxc_drop (f:=lab a b S m) (g:=fun i=>if i=lab a b S m 0 then i+1 else lab a b S m i) n l0 (lab_idem _ _ _ _ _) (by simp) (fun i hi hne=>by simp only [if_neg hne])
  omega
 omega
def isT (n m:Nat) (a b:Nat→Nat) (S:Nat→Bool):Bool:=decide (crd S m=n - 1∧mcn a b S m=n - 1)
def isF (n m:Nat) (a b:Nat→Nat) (s:Nat) (S:Nat→Bool):Bool:=
 decide (crd S m=n - 2∧lab a b S m 0≠lab a b S m s∧∀ i,i<n→lab a b S m i=lab a b S m 0∨lab a b S m i=lab a b S m s)
def chF (n m:Nat) (a b:Nat→Nat) (s:Nat) (S:Nat→Bool) (i:Nat):Rat:=if isF n m a b s S=true∧lab a b S m i=lab a b S m 0 then 1 else 0
theorem isT_iff (h:Gra n m a b):isT n m a b S=true↔crd S m=n - 1∧Conn n m a b S:=by
 unfold isT
 rw [decide_eq_true_iff]
 exact⟨fun q=>⟨q.1,conn_of h (Nat.le_of_eq q.2.symm)⟩,fun q=>⟨q.1,conn_mcn h q.2⟩⟩
theorem crd_congr {S S':Nat→Bool} : ∀ k,(∀ i,i<k→S i=S' i)→crd S k=crd S' k
 | 0,_=>rfl
 | k+1,h=>by simp only [crd,crd_congr k (fun i hi=>h i (by omega)),h k (by omega)]
theorem crd_put {k:Nat} (hs:S k=false):∀ m,k<m→crd (putB S k) m=crd S m+1
 | 0,h=>by omega
 | m+1,h=>by
  simp only [crd]
  by_cases e:k=m
  ·subst e
   rw [crd_congr (S:=putB S k) (S':=S) k (fun i hi=>by simp only [putB];rw [if_neg (by omega)]),hs]
   simp [putB]
  ·rw [crd_put hs m (by omega)]
   have:putB S k m=S m:=by simp only [putB];rw [if_neg (fun q=>e q.symm)]
   rw [this];omega
theorem put_cut {k:Nat} (hs:S k=true):putB (cutB S k) k=S:=by
 funext j;simp only [putB,cutB];split
 ·rename_i e;rw [e,hs]
 ·rfl
theorem cut_put {k:Nat} (hs:S k=false):cutB (putB S k) k=S:=by
 funext j;simp only [putB,cutB];split
 ·rename_i e;rw [e,hs]
 ·rfl
def sid (m:Nat) (a b:Nat→Nat) (S:Nat→Bool) (k i:Nat):Rat:=if lab a b (cutB S k) m i=lab a b (cutB S k) m (a k) then 1 else 0
theorem flat_put {k:Nat} {u:Nat→Rat} (hu:Flat m a b (cutB S k) u) (he:u (a k)=u (b k)):Flat m a b S u:=fun j hj hs=>by
 by_cases e:j=k
 ·rw [e];exact he
 ·exact hu j hj (by simp only [cutB];rw [if_neg e];exact hs)
theorem sid_flat {k j:Nat} (hj:j<m) (hsj:S j=true) (hne:j≠k):sid m a b S k (a j)=sid m a b S k (b j):=by
 unfold sid
 rw [lab_on m j hj (by simp only [cutB];rw [if_neg hne];exact hsj)]
section
variable (h:Gra n m a b) (ht:isT n m a b S=true) {k:Nat} (hk:k<m) (hs:S k=true)
include h ht hk hs
theorem tree_cut:lab a b (cutB S k) m (a k)≠lab a b (cutB S k) m (b k)∧∀ i,i<n→lab a b (cutB S k) m i=lab a b (cutB S k) m (a k)∨lab a b (cutB S k) m i=lab a b (cutB S k) m (b k):=by
 obtain⟨h1,h2⟩:=(isT_iff h).1 ht
 have hc:crd S m=crd (cutB S k) m+1:=by
  have:=crd_put (S:=cutB S k) (k:=k) (by simp [cutB]) m hk
  rw [put_cut hs] at this;exact this
 refine⟨fun e=>?_,fun i hi=>?_⟩
 ·have hn:Conn n m a b (cutB S k):=fun u hu=>h2 u (flat_put hu (by rw [←lab_flat hu m (Nat.le_refl _) (a k),e,lab_flat hu m (Nat.le_refl _)]))
  have h3:=conn_mcn h hn
  have h4:=mcn_crd a b (cutB S k) m
  omega
 ·refine Classical.byContradiction (fun hn=>?_)
  have n1:¬ lab a b (cutB S k) m (a k)=lab a b (cutB S k) m i:=fun e=>hn (.inl e.symm)
  have n2:¬ lab a b (cutB S k) m (b k)=lab a b (cutB S k) m i:=fun e=>hn (.inr e.symm)
  have:=h2 _ (flat_put (lab_ind (lab a b (cutB S k) m i)) (by show (if lab a b (cutB S k) m (a k)=_ then (1:Rat) else 0)=if lab a b (cutB S k) m (b k)=_ then 1 else 0;rw [if_neg n1,if_neg n2])) i (a k) hi (h.a k hk)
  simp only [if_true,if_neg n1] at this
  exact absurd this (by decide)
theorem sid_ab:sid m a b S k (a k) - sid m a b S k (b k)=1:=by
 have:=(tree_cut h ht hk hs).1
 unfold sid
 rw [if_pos rfl,if_neg (fun e=>this e.symm)]
 grind
theorem chF_sid {s:Nat} (hn:2≤n) (hsn:s<n):chF n m a b s (cutB S k) (a k) - chF n m a b s (cutB S k) (b k)=sid m a b S k 0 - sid m a b S k s:=by
 obtain⟨h1,h2⟩:=tree_cut h ht hk hs
 have h3:=((isT_iff h).1 ht).1
 have hc:crd S m=crd (cutB S k) m+1:=by
  have:=crd_put (S:=cutB S k) (k:=k) (by simp [cutB]) m hk
  rw [put_cut hs] at this;exact this
 unfold chF sid
 have z0:=h2 0 h.pos
 have zs:=h2 s hsn
 by_cases e:lab a b (cutB S k) m 0=lab a b (cutB S k) m s
 ·have f:isF n m a b s (cutB S k)=false:=by unfold isF;rw [decide_eq_false_iff_not];exact fun q=>q.2.1 e
  rw [f,e];simp;grind
 ·have f:isF n m a b s (cutB S k)=true:=by
   unfold isF
   rw [decide_eq_true_iff]
   refine⟨by omega,e,fun i hi=>?_⟩
   rcases h2 i hi with q | q <;> rcases z0 with q0 | q0 <;> rcases zs with qs | qs
   ·exact .inl (q.trans q0.symm)
   ·exact .inl (q.trans q0.symm)
   ·exact .inr (q.trans qs.symm)
   ·exact absurd (q0.trans qs.symm) e
   ·exact absurd (q0.trans qs.symm) e
   ·exact .inr (q.trans qs.symm)
   ·exact .inl (q.trans q0.symm)
   ·exact .inl (q.trans q0.symm)
  rw [f]
  rcases z0 with q0 | q0 <;> rcases zs with qs | qs
  ·exact absurd (q0.trans qs.symm) e
  ·rw [q0,qs];simp
  ·rw [q0,qs];simp [h1,fun z=>h1 (Eq.symm z)];grind
  ·exact absurd (q0.trans qs.symm) e
end
theorem tree_flow (h:Gra n m a b) (ht:isT n m a b S=true) (hn:2≤n) {s:Nat} (hsn:s<n) (u:Nat→Rat) :
  sumQ (fun k=>if S k=true then (u (a k) - u (b k))*(chF n m a b s (cutB S k) (a k) - chF n m a b s (cutB S k) (b k)) else 0) m=u 0 - u s:=by
 obtain⟨v,hv⟩:∃ v:Nat→Rat,v=fun i=>sumQ (fun k=>if S k=true then (u (a k) - u (b k))*sid m a b S k i else 0) m - u i:=⟨_,rfl⟩
 have flat:Flat m a b S v:=fun l hl hs=>by
  have:sumQ (fun k=>if S k=true then (u (a k) - u (b k))*sid m a b S k (a l) else 0) m - sumQ (fun k=>if S k=true then (u (a k) - u (b k))*sid m a b S k (b l) else 0) m=u (a l) - u (b l):=by
   rw [←sumQ_sub,sumQ_one _ l m hl (fun k hk hne=>by
    by_cases e:S k=true
    ·rw [if_pos e,if_pos e,sid_flat hl hs (fun q=>hne q.symm)];grind
    ·rw [if_neg e,if_neg e];grind),if_pos hs,if_pos hs]
   have:=sid_ab h ht hl hs
   have:sid m a b S l (a l)=1+sid m a b S l (b l):=by grind
   rw [this];grind
  rw [hv]
  simp only
  grind
 have e:=((isT_iff h).1 ht).2 v flat 0 s h.pos hsn
 rw [hv] at e
 simp only at e
 rw [sumQ_congr m (g:=fun k=>(if S k=true then (u (a k) - u (b k))*sid m a b S k 0 else 0) - (if S k=true then (u (a k) - u (b k))*sid m a b S k s else 0)) (fun k hk=>by
  by_cases q:S k=true
  ·rw [if_pos q,if_pos q,if_pos q,chF_sid h ht hk q hn hsn];grind
  ·rw [if_neg q,if_neg q,if_neg q];grind),sumQ_sub]
 grind
end
def sumS:Nat→((Nat→Bool)→Rat)→Rat
 | 0,F=>F (fun _=>false)
 | m+1,F=>sumS m F+sumS m (fun S=>F (putB S m))
def Low (m:Nat) (S:Nat→Bool):Prop:=∀ k,m≤k→S k=false
theorem Low.succ {m:Nat} {S:Nat→Bool} (h:Low m S):Low (m+1) S:=fun k hk=>h k (by omega)
theorem Low.put {m:Nat} {S:Nat→Bool} (h:Low m S):Low (m+1) (putB S m):=fun k hk=>by
 simp only [putB];rw [if_neg (by omega)];exact h k (by omega)
theorem sumS_congr:∀ (m:Nat) {F G:(Nat→Bool)→Rat},(∀ S,Low m S→F S=G S)→sumS m F=sumS m G
 | 0,F,G,h=>h _ (fun _ _=>rfl)
 | m+1,F,G,h=>by
  simp only [sumS]
  rw [sumS_congr m (F:=F) (G:=G) (fun S hS=>h S hS.succ),sumS_congr m (F:=fun S=>F (putB S m)) (G:=fun S=>G (putB S m)) (fun S hS=>h _ hS.put)]
theorem sumS_add:∀ (m:Nat) (F G:(Nat→Bool)→Rat),sumS m (fun S=>F S+G S)=sumS m F+sumS m G
 | 0,F,G=>rfl
 | m+1,F,G=>by simp only [sumS];rw [sumS_add m F G,sumS_add m (fun S=>F (putB S m)) (fun S=>G (putB S m))];grind
theorem sumS_sub:∀ (m:Nat) (F G:(Nat→Bool)→Rat),sumS m (fun S=>F S - G S)=sumS m F - sumS m G
 | 0,F,G=>rfl
 | m+1,F,G=>by simp only [sumS];rw [sumS_sub m F G,sumS_sub m (fun S=>F (putB S m)) (fun S=>G (putB S m))];grind
theorem sumS_mul (c:Rat):∀ (m:Nat) (F:(Nat→Bool)→Rat),sumS m (fun S=>c*F S)=c*sumS m F
 | 0,F=>rfl
 | m+1,F=>by simp only [sumS];rw [sumS_mul c m F,sumS_mul c m (fun S=>F (putB S m))];grind
theorem sumS_zero:∀ (m:Nat),sumS m (fun _=>0)=0
 | 0=>rfl
 | m+1=>by simp only [sumS,sumS_zero m];grind
theorem sumS_swap (m:Nat) (F:(Nat→Bool)→Nat→Rat):∀ N,sumS m (fun S=>sumQ (F S) N)=sumQ (fun k=>sumS m (fun S=>F S k)) N
 | 0=>by simp only [sumQ];exact sumS_zero m
 | N+1=>by simp only [sumQ];rw [sumS_add,sumS_swap m F N]
theorem put_comm (S:Nat→Bool) (k m:Nat):putB (putB S k) m=putB (putB S m) k:=by
 funext j;simp only [putB];split <;> split <;> rfl
theorem sumS_with {k:Nat} : ∀ (m:Nat),k<m→∀ G:(Nat→Bool)→Rat,sumS m (fun S=>if S k=true then G S else 0)=sumS m (fun S=>if S k=true then 0 else G (putB S k))
 | 0,h,_=>by omega
 | m+1,h,G=>by
  simp only [sumS]
  by_cases e:k=m
  ·subst e
   rw [sumS_congr k (F:=fun S=>if S k=true then G S else 0) (G:=fun _=>0) (fun S hS=>by rw [hS k (Nat.le_refl _)];simp),
    sumS_congr k (F:=fun S=>if putB S k k=true then G (putB S k) else 0) (G:=fun S=>G (putB S k)) (fun S hS=>by simp [putB]),
    sumS_congr k (F:=fun S=>if S k=true then 0 else G (putB S k)) (G:=fun S=>G (putB S k)) (fun S hS=>by rw [hS k (Nat.le_refl _)];simp),
    sumS_congr k (F:=fun S=>if putB S k k=true then 0 else G (putB (putB S k) k)) (G:=fun _=>0) (fun S hS=>by simp [putB]),sumS_zero]
   grind
  ·have e1:∀ S:Nat→Bool,putB S m k=S k:=fun S=>by simp only [putB];rw [if_neg e]
   rw [sumS_with (k:=k) m (by omega) G]
   congr 1
   have:=sumS_with (k:=k) m (by omega) (fun S=>G (putB S m))
   simp only [e1]
   rw [this]
   exact sumS_congr m (fun S _=>by rw [put_comm])
theorem sumS_nat:∀ (m:Nat) (F:(Nat→Bool)→Rat),(∀ S,F S=0∨F S=1)→∃ c:Nat,sumS m F=(c:Rat)∧c≤2 ^ m
 | 0,F,h=>by
  rcases h (fun _=>false) with e | e
  ·exact⟨0,e,by decide⟩
  ·exact⟨1,e,by decide⟩
 | m+1,F,h=>by
  obtain⟨c,e1,h1⟩:=sumS_nat m F h
  obtain⟨d,e2,h2⟩:=sumS_nat m (fun S=>F (putB S m)) (fun S=>h _)
  refine⟨c+d,?_,by rw [Nat.pow_succ];omega⟩
  simp only [sumS]
  rw [e1,e2,Rat.natCast_add]
theorem sumS_nn:∀ (m:Nat) {F:(Nat→Bool)→Rat},(∀ S,0≤F S)→0≤sumS m F
 | 0,F,h=>h _
 | m+1,F,h=>by
  have h1:=sumS_nn m h
  have h2:=sumS_nn m (F:=fun S=>F (putB S m)) (fun S=>h _)
  simp only [sumS];grind
theorem sumS_pos:∀ (m:Nat) {F:(Nat→Bool)→Rat} (T:Nat→Bool),Low m T→(∀ S,0≤F S)→0<F T→0<sumS m F
 | 0,F,T,hT,h,hp=>by
  have:T=fun _=>false:=funext (fun k=>hT k (Nat.zero_le _))
  rw [this] at hp;exact hp
 | m+1,F,T,hT,h,hp=>by
  simp only [sumS]
  by_cases e:T m=true
  ·have h1:=sumS_nn m h
   have h2:=sumS_pos m (F:=fun S=>F (putB S m)) (cutB T m) (fun k hk=>by
    simp only [cutB];split
    ·rfl
    ·exact hT k (by omega)) (fun S=>h _) (by rw [put_cut e];exact hp)
   grind
  ·have h1:=sumS_pos m (F:=F) T (fun k hk=>by
    by_cases q:k=m
    ·rw [q];simpa using e
    ·exact hT k (by omega)) h hp
   have h2:=sumS_nn m (F:=fun S=>F (putB S m)) (fun S=>h _)
   grind
def nT (n m:Nat) (a b:Nat→Nat):Rat:=sumS m (fun S=>if isT n m a b S=true then 1 else 0)
def nF (n m:Nat) (a b:Nat→Nat) (s i:Nat):Rat:=sumS m (fun S=>chF n m a b s S i)
section
variable {n m:Nat} {a b:Nat→Nat} {s:Nat}
theorem nF_s (n m:Nat) (a b:Nat→Nat) (s:Nat):nF n m a b s s=0:=by
 unfold nF
 rw [sumS_congr m (G:=fun _=>0) (fun S _=>?_),sumS_zero]
 unfold chF
 refine if_neg (fun q=>?_)
 have:=q.1
 unfold isF at this
 rw [decide_eq_true_iff] at this
 exact this.2.1 q.2.symm
theorem nF_fall (h:Gra n m a b) (hn:2≤n) (hsn:s<n) {k:Nat} (hk:k<m) :
  nF n m a b s (a k) - nF n m a b s (b k)=sumS m (fun S=>if isT n m a b S=true then (if S k=true then chF n m a b s (cutB S k) (a k) - chF n m a b s (cutB S k) (b k) else 0) else 0):=by
 have e1:sumS m (fun S=>if isT n m a b S=true then (if S k=true then chF n m a b s (cutB S k) (a k) - chF n m a b s (cutB S k) (b k) else 0) else 0)
   = sumS m (fun S=>if S k=true then (if isT n m a b S=true then chF n m a b s (cutB S k) (a k) - chF n m a b s (cutB S k) (b k) else 0) else 0):=sumS_congr m (fun S _=>by
  by_cases e:S k=true
  ·simp only [if_pos e]
  ·simp only [if_neg e];split <;> rfl)
 rw [e1,sumS_with m hk]
 unfold nF
 rw [←sumS_sub]
 refine sumS_congr m (fun S _=>?_)
 by_cases e:S k=true
 ·rw [if_pos e]
  unfold chF
  rw [lab_on m k hk e];grind
 ·have es:S k=false:=by simpa using e
  rw [if_neg e,cut_put es]
  by_cases et:isT n m a b (putB S k)=true
  ·rw [if_pos et]
  ·rw [if_neg et]
   by_cases ef:isF n m a b s S=true
   ·have q:=ef
    unfold isF at q
    rw [decide_eq_true_iff] at q
    obtain⟨q1,q2,q3⟩:=q
    have key:lab a b S m (a k)=lab a b S m 0↔lab a b S m (b k)=lab a b S m 0:=by
     refine Classical.byContradiction (fun hne=>et ((isT_iff h).2 ⟨by rw [crd_put es m hk];omega,fun u hu=>?_⟩))
     have hu':Flat m a b S u:=fun j hj hs=>hu j hj (by simp only [putB];split;rfl;exact hs)
     have huk:u (a k)=u (b k):=hu k hk (by simp [putB])
     have l:=lab_flat hu' m (Nat.le_refl _)
     have hz:u 0=u s:=by
      rcases q3 (a k) (h.a k hk) with p1 | p1 <;> rcases q3 (b k) (h.b k hk) with p2 | p2
      ·exact absurd ⟨fun _=>p2,fun _=>p1⟩ hne
      ·rw [←l 0,←p1,l,huk,←l (b k),p2,l]
      ·rw [←l 0,←p2,l,←huk,←l (a k),p1,l]
      ·refine absurd ⟨fun z=>?_,fun z=>?_⟩ hne
       ·exact absurd (z.symm.trans p1) q2
       ·exact absurd (z.symm.trans p2) q2
     have all:∀ i,i<n→u i=u 0:=fun i hi=>by
      rcases q3 i hi with p | p
      ·rw [←l i,p,l]
      ·rw [←l i,p,l,hz]
     intro i j hi hj
     rw [all i hi,all j hj]
    unfold chF
    by_cases z:lab a b S m (a k)=lab a b S m 0
    ·rw [if_pos ⟨ef,z⟩,if_pos ⟨ef,key.1 z⟩];grind
    ·rw [if_neg (fun y=>z y.2),if_neg (fun y=>z (key.2 y.2))];grind
   ·unfold chF
    rw [if_neg (fun y=>ef y.1),if_neg (fun y=>ef y.1)];grind
theorem nF_flow (h:Gra n m a b) (hn:2≤n) (hsn:s<n) (u:Nat→Rat) :
  sumQ (fun k=>(u (a k) - u (b k))*(nF n m a b s (a k) - nF n m a b s (b k))) m=nT n m a b*(u 0 - u s):=by
 rw [sumQ_congr m (g:=fun k=>sumS m (fun S=>(u (a k) - u (b k))*(if isT n m a b S=true then (if S k=true then chF n m a b s (cutB S k) (a k) - chF n m a b s (cutB S k) (b k) else 0) else 0))) (fun k hk=>by
  rw [nF_fall h hn hsn hk,sumS_mul]),←sumS_swap]
 unfold nT
 rw [show sumS m (fun S=>if isT n m a b S=true then 1 else 0)*(u 0 - u s)=(u 0 - u s)*sumS m (fun S=>if isT n m a b S=true then 1 else 0) from Rat.mul_comm _ _,←sumS_mul]
 refine sumS_congr m (fun S _=>?_)
 by_cases et:isT n m a b S=true
 ·simp only [if_pos et]
  rw [←tree_flow h et hn hsn u,sumQ_congr m (g:=fun k=>if S k=true then (u (a k) - u (b k))*(chF n m a b s (cutB S k) (a k) - chF n m a b s (cutB S k) (b k)) else 0) (fun k _=>by
   by_cases e:S k=true
   ·rw [if_pos e,if_pos e]
   ·rw [if_neg e,if_neg e];grind)]
  grind
 ·simp only [if_neg et]
  rw [sumQ_eq_zero m (fun k _=>by grind)]
  grind
theorem nT_nat (n m:Nat) (a b:Nat→Nat):∃ c:Nat,nT n m a b=(c:Rat)∧c≤2 ^ m:=sumS_nat m _ (fun S=>by split <;> simp)
theorem nF_nat (n m:Nat) (a b:Nat→Nat) (s i:Nat):∃ c:Nat,nF n m a b s i=(c:Rat)∧c≤2 ^ m:=sumS_nat m _ (fun S=>by unfold chF;split <;> simp)
def joins (m:Nat) (a b:Nat→Nat) (S:Nat→Bool):Nat→Bool:=fun k=>decide (k<m∧S k=true∧lab a b S k (a k)≠lab a b S k (b k))
theorem joins_lab (S:Nat→Bool):∀ k,k≤m→lab a b (joins m a b S) k=lab a b S k∧crd (joins m a b S) k=mcn a b S k∧mcn a b (joins m a b S) k=mcn a b S k
 | 0,_=>⟨rfl,rfl,rfl⟩
 | k+1,hk=>by
  obtain⟨h1,h2,h3⟩:=joins_lab S k (by omega)
  have e:joins m a b S k=decide (S k=true∧lab a b S k (a k)≠lab a b S k (b k)):=by
   unfold joins
   exact decide_eq_decide.2 ⟨fun q=>q.2,fun q=>⟨by omega,q⟩⟩
  simp only [lab,crd,mcn,h1,h2,h3,e,decide_eq_true_eq]
  by_cases q:S k=true∧lab a b S k (a k)≠lab a b S k (b k)
  ·simp only [q,and_self,if_true,ne_eq,not_false_eq_true]
  ·simp only [if_neg q]
   refine⟨?_,?_,?_⟩
   ·by_cases q1:S k=true
    ·have q2:lab a b S k (a k)=lab a b S k (b k):=Classical.byContradiction (fun z=>q ⟨q1,z⟩)
     rw [if_pos q1]
     funext i;simp only [mrg];split
     ·rename_i w;rw [w,q2]
     ·rfl
    ·rw [if_neg q1]
   ·trivial
   ·rw [if_neg (fun z=>q z.1)]
theorem nT_pos (h:Gra n m a b) (hc:Conn n m a b (fun k=>decide (k<m))):0<nT n m a b:=by
 obtain⟨h1,h2,h3⟩:=joins_lab (m:=m) (a:=a) (b:=b) (fun k=>decide (k<m)) m (Nat.le_refl _)
 have h4:=conn_mcn h hc
 refine sumS_pos m (joins m a b (fun k=>decide (k<m))) (fun k hk=>?_) (fun S=>by split <;> decide) ?_
 ·unfold joins
  rw [decide_eq_false_iff_not]
  exact fun q=>Nat.lt_irrefl _ (Nat.lt_of_lt_of_le q.1 hk)
 ·have:isT n m a b (joins m a b (fun k=>decide (k<m)))=true:=by
   unfold isT
   rw [decide_eq_true_iff]
   exact⟨h2.trans h4,h3.trans h4⟩
  rw [if_pos this];decide
end
end Go.Proofs.YtolkchkedieppaaGreat
