import Derived.Test.YtgmopcncbpdniaaGreatKShelf
import Derived.Test.YtgmopcncbpdniaaGreatKGen
import Derived.Test.YtgmopcncbpdniaaGreatKPlainD
import Derived.Test.YtgmopcncbpdniaaGreatKLin2
set_option maxHeartbeats 4000000
set_option maxRecDepth 100000
set_option linter.unusedVariables false
set_option linter.unusedSimpArgs false
namespace Go.Proofs.YtgmopcncbpdniaaGreat
def FwdArc (d r:Nat->Nat->Int) (a:Arc):Prop:=a.src=a.pi/\a.dst=a.pj/\a.c=1/\r a.pi a.pj<d a.pi a.pj/\a.most=d a.pi a.pj - r a.pi a.pj
def BwdArc (d r:Nat->Nat->Int) (a:Arc):Prop:=a.src=a.pj/\a.dst=a.pi/\a.c = -1/\0<r a.pi a.pj/\a.most=r a.pi a.pj
structure ArcsOK (n m:Nat) (l:Nat->Arc) (d r:Nat->Nat->Int):Prop where
 sound:∀ k,k<m->(l k).pi<n/\(l k).pj<n/\(l k).pi≠(l k).pj/\(FwdArc d r (l k)\/BwdArc d r (l k))
 fwd:∀ i j,i<n->j<n->r i j<d i j->∃ k,k<m/\(l k).src=i/\(l k).dst=j/\(l k).c=1
 bwd:∀ i j,i<n->j<n->0<r i j->∃ k,k<m/\(l k).src=j/\(l k).dst=i/\(l k).c = -1
theorem ArcsOK.arcsIn {n m:Nat} {l:Nat->Arc} {d r:Nat->Nat->Int} (h:ArcsOK n m l d r):ArcsIn n m l:=fun k hk=>by
 obtain⟨h1,h2,h3,h4⟩:=h.sound k hk;rcases h4 with ⟨e1,e2,_⟩ | ⟨e1,e2,_⟩
 ·rw [e1,e2];exact⟨h1,h2,h3⟩
 ·rw [e1,e2];exact⟨h2,h1,fun e=>h3 e.symm⟩
def upd2 (f:Nat->Nat->Int) (i j:Nat) (x:Int):Nat->Nat->Int:=fun a b=>if a=i/\b=j then x else f a b
theorem upd2_self (f:Nat->Nat->Int) (i j:Nat) (x:Int):upd2 f i j x i j=x:=if_pos ⟨rfl,rfl⟩
theorem upd2_ne (f:Nat->Nat->Int) {i j a b:Nat} (x:Int) (h:¬ (a=i/\b=j)):upd2 f i j x a b=f a b:=if_neg h
theorem sumF_add (f g:Nat->Int) (n:Nat):sumF (fun i=>f i+g i) n=sumF f n+sumF g n:=by
 induction n with
 | zero=>rfl
 | succ n ih=>simp only [sumF];rw [ih];omega
theorem sumF_ind (i:Nat) (x:Int) (n:Nat):sumF (fun a=>if a=i then x else 0) n=if i<n then x else 0:=by
 induction n with
 | zero=>simp [sumF]
 | succ n ih=>
  simp only [sumF];rw [ih];by_cases h1:i<n
  ·rw [if_pos h1,if_neg (by omega),if_pos (by omega)];omega
  ·by_cases h2:n=i
   ·rw [if_neg h1,if_pos h2,if_pos (by omega)];omega
   ·rw [if_neg h1,if_neg h2,if_neg (by omega)];omega
def sum2 (n:Nat) (f:Nat->Nat->Int):Int:=sumF (fun i=>sumF (f i) n) n
def bal (n:Nat) (f:Nat->Nat->Int) (v:Nat):Int:=sumF (fun j=>f v j) n - sumF (fun j=>f j v) n
theorem upd2_row (f:Nat->Nat->Int) (i j:Nat) (x:Int) (a:Nat) (n:Nat) (hj:j<n):sumF (upd2 f i j x a) n=sumF (f a) n+(if a=i then x - f i j else 0):=by
 have e:upd2 f i j x a=fun b=>f a b+(if b=j then (if a=i then x - f i j else 0) else 0):=by
  funext b;unfold upd2;by_cases h1:a=i
  ·by_cases h2:b=j
   ·subst h1;subst h2;simp;omega
   ·simp [h1,h2]
  ·simp [h1]
 rw [e,sumF_add,sumF_ind,if_pos hj]
theorem upd2_col (f:Nat->Nat->Int) (i j:Nat) (x:Int) (b:Nat) (n:Nat) (hi:i<n):sumF (fun a=>upd2 f i j x a b) n=sumF (fun a=>f a b) n+(if b=j then x - f i j else 0):=by
 have e:(fun a=>upd2 f i j x a b)=fun a=>f a b+(if a=i then (if b=j then x - f i j else 0) else 0):=by
  funext a;unfold upd2;by_cases h1:b=j
  ·by_cases h2:a=i
   ·subst h1;subst h2;simp;omega
   ·simp [h1,h2]
  ·simp [h1]
 rw [e,sumF_add,sumF_ind,if_pos hi]
theorem upd2_sum (n:Nat) (f:Nat->Nat->Int) (i j:Nat) (x:Int) (hi:i<n) (hj:j<n):sum2 n (upd2 f i j x)=sum2 n f+(x - f i j):=by
 unfold sum2
 have e:(fun a=>sumF (upd2 f i j x a) n)=fun a=>sumF (f a) n+(if a=i then x - f i j else 0):=by
  funext a;exact upd2_row f i j x a n hj
 rw [e,sumF_add,sumF_ind,if_pos hi]
theorem upd2_bal (n:Nat) (f:Nat->Nat->Int) (i j:Nat) (x:Int) (v:Nat) (hi:i<n) (hj:j<n):bal n (upd2 f i j x) v=bal n f v+((if v=i then x - f i j else 0) - (if v=j then x - f i j else 0)):=by
 unfold bal;have e:=upd2_row f i j x v n hj;have e1:sumF (fun b=>upd2 f i j x v b) n=sumF (upd2 f i j x v) n:=rfl;rw [e1,e,upd2_col f i j x v n hi];have e2:sumF (fun b=>f v b) n=sumF (f v) n:=rfl;rw [e2];omega
def along (l:Nat->Arc) (b:Nat->Int) (y:Nat) (mst:Int) (r:Nat->Nat->Int):Nat->Nat->Nat->Int
 | 0=>r
 | s+1=>upd2 (along l b y mst r s) (l (b (iter (fromF l b) s y)).toNat).pi (l (b (iter (fromF l b) s y)).toNat).pj
   (along l b y mst r s (l (b (iter (fromF l b) s y)).toNat).pi (l (b (iter (fromF l b) s y)).toNat).pj+(l (b (iter (fromF l b) s y)).toNat).c*mst)
structure IsRing (n m:Nat) (l:Nat->Arc) (b:Nat->Int) (y p:Nat):Prop where
 pos:0<p
 back:iter (fromF l b) p y=y
 first:∀ s,0<s->s<p->iter (fromF l b) s y≠y
 arc:∀ s,(b (iter (fromF l b) s y)).toNat<m/\(l (b (iter (fromF l b) s y)).toNat).dst=iter (fromF l b) s y/\(l (b (iter (fromF l b) s y)).toNat).src=iter (fromF l b) (s+1) y
theorem IsRing.apart {n m:Nat} {l:Nat->Arc} {b:Nat->Int} {y p:Nat} (h:IsRing n m l b y p) {s t:Nat} (hst:s<t) (ht:t<p):iter (fromF l b) s y≠iter (fromF l b) t y:=fun e=>by
 have e1:iter (fromF l b) (p - t+t) y=y:=by rw [Nat.sub_add_cancel (by omega)];exact h.back
 rw [iter_add,<-e,<-iter_add] at e1;exact h.first (p - t+s) (by omega) (by omega) e1
section
variable {n m:Nat} {l:Nat->Arc} {d r:Nat->Nat->Int} {b:Nat->Int} {y p:Nat} {mst:Int}
theorem along_sum (h:ArcsOK n m l d r) (hr:IsRing n m l b y p):∀ s,sum2 n (along l b y mst r s)=sum2 n r+ringC l b y s*mst
 | 0=>by simp [along,ringC]
 | s+1=>by
  obtain⟨h1,h2,h3,_⟩:=h.sound _ (hr.arc s).1;simp only [along,ringC];rw [upd2_sum n _ _ _ _ h1 h2,along_sum h hr s,Int.add_mul];omega
theorem along_bal (h:ArcsOK n m l d r) (hr:IsRing n m l b y p) (v:Nat):∀ s,bal n (along l b y mst r s) v=bal n r v+((if v=iter (fromF l b) s y then mst else 0) - (if v=y then mst else 0))
 | 0=>by simp [along,iter];omega
 | s+1=>by
  obtain⟨h1,h2,h3,h4⟩:=h.sound _ (hr.arc s).1;obtain⟨_,hd,hs⟩:=hr.arc s;simp only [along];rw [upd2_bal n _ _ _ _ _ h1 h2,along_bal h hr v s];rcases h4 with ⟨e1,e2,e3,_⟩ | ⟨e1,e2,e3,_⟩
  ·rw [e3,<-e1,<-e2,hd,hs];split <;> split <;> split <;> omega
  ·rw [e3,<-e1,<-e2,hd,hs];split <;> split <;> split <;> omega
def Used (l:Nat->Arc) (b:Nat->Int) (y:Nat) (c:Int) (i j s:Nat):Prop:=
 ∃ t,t<s/\(l (b (iter (fromF l b) t y)).toNat).pi=i/\(l (b (iter (fromF l b) t y)).toNat).pj=j/\(l (b (iter (fromF l b) t y)).toNat).c=c
open Classical in
theorem along_val (h:ArcsOK n m l d r) (hr:IsRing n m l b y p) (i j:Nat):∀ s,s<=p->along l b y mst r s i j=r i j+(if Used l b y 1 i j s then mst else 0) - (if Used l b y (-1) i j s then mst else 0)
 | 0,_=>by
  have h0:∀ c,¬ Used l b y c i j 0:=fun c ⟨t,ht,_⟩=>by omega
  rw [if_neg (h0 _),if_neg (h0 _)];simp [along]
 | s+1,hsp=>by
  have ih:=along_val h hr i j s (by omega);obtain⟨h1,h2,h3,h4⟩:=h.sound _ (hr.arc s).1;obtain⟨_,hd,hs⟩:=hr.arc s;simp only [along]
  have grow:∀ c,Used l b y c i j (s+1)↔Used l b y c i j s\/((l (b (iter (fromF l b) s y)).toNat).pi=i/\(l (b (iter (fromF l b) s y)).toNat).pj=j/\(l (b (iter (fromF l b) s y)).toNat).c=c):=by
   intro c;constructor
   ·rintro ⟨t,ht,ho⟩;rcases Nat.lt_or_ge t s with q | q
    ·exact .inl ⟨t,q,ho⟩
    ·obtain rfl:t=s:=by omega
     exact .inr ho
   ·rintro (⟨t,ht,ho⟩ | ho)
    ·exact⟨t,by omega,ho⟩
    ·exact⟨s,by omega,ho⟩
  by_cases hij:(l (b (iter (fromF l b) s y)).toNat).pi=i/\(l (b (iter (fromF l b) s y)).toNat).pj=j
  ·obtain⟨ei,ej⟩:=hij;rw [ei,ej,upd2_self,ih];rcases h4 with ⟨e1,e2,e3,_⟩ | ⟨e1,e2,e3,_⟩
   ·have hn:¬ Used l b y 1 i j s:=fun ⟨t,ht,oi,oj,oc⟩=>by
     obtain⟨_,_,_,g4⟩:=h.sound _ (hr.arc t).1;rcases g4 with ⟨g1,g2,g3,_⟩ | ⟨g1,g2,g3,_⟩
     ·exact hr.apart ht (by omega) (by rw [<-(hr.arc t).2.1,<-hd,g2,e2,oj,ej])
     ·rw [g3] at oc;exact absurd oc (by decide)
    have hy:Used l b y 1 i j (s+1):=(grow 1).2 (.inr ⟨ei,ej,e3⟩)
    have hm:Used l b y (-1) i j (s+1)↔Used l b y (-1) i j s:=by
     rw [grow];constructor
     ·rintro (q | ⟨_,_,q⟩)
      ·exact q
      ·rw [e3] at q;exact absurd q (by decide)
     ·exact .inl
    rw [if_neg hn,if_pos hy,e3];simp only [hm];split <;> omega
   ·have hn:¬ Used l b y (-1) i j s:=fun ⟨t,ht,oi,oj,oc⟩=>by
     obtain⟨_,_,_,g4⟩:=h.sound _ (hr.arc t).1;rcases g4 with ⟨g1,g2,g3,_⟩ | ⟨g1,g2,g3,_⟩
     ·rw [g3] at oc;exact absurd oc (by decide)
     ·exact hr.apart ht (by omega) (by rw [<-(hr.arc t).2.1,<-hd,g2,e2,oi,ei])
    have hy:Used l b y (-1) i j (s+1):=(grow (-1)).2 (.inr ⟨ei,ej,e3⟩)
    have hm:Used l b y 1 i j (s+1)↔Used l b y 1 i j s:=by
     rw [grow];constructor
     ·rintro (q | ⟨_,_,q⟩)
      ·exact q
      ·rw [e3] at q;exact absurd q (by decide)
     ·exact .inl
    rw [if_neg hn,if_pos hy,e3];simp only [hm];split <;> omega
  ·rw [upd2_ne _ _ (fun e=>hij ⟨e.1.symm,e.2.symm⟩),ih]
   have hm:∀ c,Used l b y c i j (s+1)↔Used l b y c i j s:=fun c=>by
    rw [grow];constructor
    ·rintro (q | ⟨q1,q2,_⟩)
     ·exact q
     ·exact absurd ⟨q1,q2⟩ hij
    ·exact .inl
   simp only [hm]
theorem along_range (h:ArcsOK n m l d r) (hr:IsRing n m l b y p) (h0:0<=mst) (hmst:∀ s,s<p->mst<=(l (b (iter (fromF l b) s y)).toNat).most) (i j:Nat) (hij:0<=r i j/\r i j<=d i j) :
  0<=along l b y mst r p i j/\along l b y mst r p i j<=d i j:=by
 classical
 have hv:=along_val (mst:=mst) h hr i j p jl
 have hf:Used l b y 1 i j p->mst<=d i j - r i j:=fun ⟨t,ht,oi,oj,oc⟩=>by
  have:=hmst t ht;obtain⟨_,_,_,g4⟩:=h.sound _ (hr.arc t).1;rcases g4 with ⟨_,_,_,_,g5⟩ | ⟨_,_,g3,_⟩
  ·rw [g5,oi,oj] at this;exact this
  ·rw [g3] at oc;exact absurd oc (by decide)
 have hb:Used l b y (-1) i j p->mst<=r i j:=fun ⟨t,ht,oi,oj,oc⟩=>by
  have:=hmst t ht;obtain⟨_,_,_,g4⟩:=h.sound _ (hr.arc t).1;rcases g4 with ⟨_,_,g3,_⟩ | ⟨_,_,_,_,g5⟩
  ·rw [g3] at oc;exact absurd oc (by decide)
  ·rw [g5,oi,oj] at this;exact this
 rw [hv];by_cases u1:Used l b y 1 i j p
 ·have:=hf u1;by_cases u2:Used l b y (-1) i j p
  ·have:=hb u2;rw [if_pos u1,if_pos u2];omega
  ·rw [if_pos u1,if_neg u2];omega
 ·by_cases u2:Used l b y (-1) i j p
  ·have:=hb u2;rw [if_neg u1,if_pos u2];omega
  ·rw [if_neg u1,if_neg u2];omega
end
end Go.Proofs.YtgmopcncbpdniaaGreat
namespace Go.Proofs.YtgmopcncbpdniaaGreat
open Go.RowKit
theorem ext_lt {P:Nat->Prop} {k:Nat} (h:∀ i,i<k->P i) (hk:P k):∀ i,i<k+1->P i:=fun i hi=>by
 rcases Nat.lt_or_ge i k with q | q
 ·exact h i q
 ·obtain rfl:i=k:=by omega
  exact hk
theorem bool_false {r:Bool} {P:Prop} (h:r=true↔P) (hn:¬ P):r=false:=by
 cases r
 ·rfl
 ·exact absurd (h.1 rfl) hn
def Debts (n:Nat) (m:Nat->Nat) (f:Nat->Nat->Int):Prop:=1<=n/\n<=8/\∀ i,i<n->m i=n/\f i i=0/\∀ j,j<n->0<=f i j/\f i j<=1000
theorem debts_any (v:Value) (n:Nat) (m:Nat->Nat) (f:Nat->Nat->Int) (r:Bool) (hr:r=true↔Debts n m f) (w:World) (hv:Mat w v n m f) (hn:n<=1048576) :
  Calls Tryz.prog 54 #[v] w fun e w'=>e = .returned (.bool r)/\Drawn w w':=by
 obtain⟨a,b,o,c,ra,rb,ro,rc,rfl,hs⟩:=hv;have HR:=jj hr;clear hr;go_enter Tryz.func54,Tryz.ntmps54;go_wp2;go_loopw [3,4] (fun i _ wr=>∃ k:Nat,k<=n/\i = .int .i64 (k:Nat)/\Hid (∀ i,i<k->m i=n/\f i i=0/\∀ j,j<n->0<=f i j/\f i j<=1000)/\Hid (Drawn w wr)) (fun i _ _=>n - (intOf i).toNat)
 case atStart=>exact⟨0,by omega,rfl,jj (fun i hi=>by omega),jj (Drawn.refl _)⟩
 case round=>
  obtain⟨k,hk,rfl,HG,hd⟩:=hrel;by_cases h:k<n
  ·have hix:=fun W=>ixM hs.top k c h W
   have hc:=(hs.top.drawn hd.out).cell k h;by_cases h1:m k=n
   ·have d1:(((m k:Nat):Int) != ((n:Nat):Int))=false:=by simp [h1]
    have hjx:=fun W=>ixI (hs.row k h) k (rc k) (by omega) W
    have hjc:=((hs.row k h).drawn hd.out).cell k (by omega);simp only [ic] at hjc;have HM:=jj h1;by_cases h2:f k k=0
    ·have d2:(f k k != 0)=false:=by simp [h2]
     have H2:=jj h2;clear h1 h2;go_wp2;go_loopw [4] (fun j wr=>∃ l:Nat,l<=n/\j = .int .i64 (l:Nat)/\Hid (∀ j,j<l->0<=f k j/\f k j<=1000)/\Hid (Drawn w wr)) (fun j _=>n - (intOf j).toNat)
     case atStart=>exact⟨0,by omega,rfl,jj (fun i hi=>by omega),hd⟩
     case round=>
      obtain⟨l,hl,rfl,HL,hd2⟩:=hrel;clear hjx hjc;have hc2:=(hs.top.drawn hd2.out).cell k h;by_cases h3:l<n
      ·have hjx:=fun W=>ixI (hs.row k h) l (rc k) (by rw [HM.out];exact h3) W
       have hjc:=((hs.row k h).drawn hd2.out).cell l (by rw [HM.out];exact h3);simp only [ic] at hjc;by_cases h4:0<=f k l/\f k l<=1000
       ·have H4:=jj h4;go_wp2_with (go_at_call 53;(with_reducible refine (in_any _ _ _ true (by simpa using H4.out) _).mono ?_);rintro e w1 ⟨rfl,rfl⟩);go_roundw
        case rel=>exact⟨l+1,by omega,by go_num,jj (ext_lt HL.out H4.out),hd2⟩
        case measure=>simp [intOf];omega
       ·have H4:=jj h4;clear h4;obtain rfl:r=false:=bool_false HR.out (fun q=>H4.out ((q.2.2 k h).2.2 l h3));go_wp2_with (go_at_call 53;(with_reducible refine (in_any _ _ _ false (by simpa using H4.out) _).mono ?_);rintro e w1 ⟨rfl,rfl⟩);go_ret;exact⟨rfl,hd2.out⟩
      ·obtain rfl:l=n:=by omega
       go_wp2;go_roundw
       case rel=>exact⟨k+1,by omega,by go_num,jj (ext_lt HG.out ⟨HM.out,H2.out,HL.out⟩),hd2⟩
       case measure=>simp [intOf];omega
    ·have d2:(f k k != 0)=true:=by simpa using h2
     obtain rfl:r=false:=bool_false HR.out (fun q=>h2 (q.2.2 k h).2.1);clear h1 h2;go_wp2;go_ret;exact⟨rfl,hd.out⟩
   ·have d1:(((m k:Nat):Int) != ((n:Nat):Int))=true:=by simp;omega
    obtain rfl:r=false:=bool_false HR.out (fun q=>h1 (q.2.2 k h).1);clear h1;go_wp2;go_ret;exact⟨rfl,hd.out⟩
  ·obtain rfl:k=n:=by omega
   by_cases h5:1<=k/\k<=8
   ·obtain rfl:r=true:=HR.out.2 ⟨h5.1,h5.2,HG.out⟩;go_wp2_with (go_at_call 53;(with_reducible refine (in_any _ _ _ true (by simp;omega) _).mono ?_);rintro e w1 ⟨rfl,rfl⟩);go_ret;exact⟨rfl,hd.out⟩
   ·obtain rfl:r=false:=bool_false HR.out (fun q=>h5 ⟨q.1,q.2.1⟩);go_wp2_with (go_at_call 53;(with_reducible refine (in_any _ _ _ false (by simp;omega) _).mono ?_);rintro e w1 ⟨rfl,rfl⟩);go_ret;exact⟨rfl,hd.out⟩
theorem cf_w_yes (x:Int) (w:World) (h:(x<0\/1000<x)):Calls Tryz.prog 112 #[.int .i64 x] w fun e w'=>e = .returned (.bool true)/\w=w':=by
 by_cases h1:x<0
 ·have d1:decide (x<0)=true:=by simpa using h1
  go_enter Tryz.func112,Tryz.ntmps112;go_wp2;go_ret;exact⟨rfl,rfl⟩
 ·have d1:decide (x<0)=false:=by simpa using h1
  have d2:decide (1000<x)=true:=by simp;omega
  go_enter Tryz.func112,Tryz.ntmps112;go_wp2;go_ret;exact⟨rfl,rfl⟩
theorem cf_w_no (x:Int) (w:World) (h:¬ (x<0\/1000<x)):Calls Tryz.prog 112 #[.int .i64 x] w fun e w'=>e = .returned (.bool false)/\w=w':=by
 have d1:decide (x<0)=false:=by simp;omega
 have d2:decide (1000<x)=false:=by simp;omega
 clear h;go_enter Tryz.func112,Tryz.ntmps112;go_wp2;go_ret;exact⟨rfl,rfl⟩
theorem cf_w_hit (v:Value) (n:Nat) (f:Nat->Int) (w:World) (hv:Ints w v n f) (hn:n<=1048576) (hit:∃ i,i<n/\(f i<0\/1000<f i)) :
  Calls Tryz.prog 137 #[v,.func (.func 112) #[] #[]] w fun e w'=>∃ z:Nat,e = .returned (.int .i64 (z:Nat))/\Drawn w w':=by
 obtain⟨a,b,o,c,rfl,hs⟩:=hv;have HH:=jj hit;clear hit;go_enter Tryz.func137,Tryz.ntmps137;go_wp2;go_loopw [5,8] (fun _ i wr=>∃ k:Nat,k<=n/\i = .int .i64 (k:Nat)/\Hid (∀ i,i<k->¬ (f i<0\/1000<f i))/\Hid (Drawn w wr)) (fun _ i _=>n - (intOf i).toNat)
 case atStart=>exact⟨0,by omega,rfl,jj (fun i hi=>by omega),jj (Drawn.refl _)⟩
 case round=>
  obtain⟨k,hk,rfl,HG,hd⟩:=hrel;by_cases h:k<n
  ·have hix:=fun W=>ixI hs k c h W
   have hc:=(hs.drawn hd.out).cell k h;simp only [ic] at hc;by_cases hb:(f k<0\/1000<f k)
   ·have HB:=jj hb;clear hb;go_wp2_with (go_at_call 112;(with_reducible refine (cf_w_yes _ _ HB.out).mono ?_);rintro e w' ⟨rfl,rfl⟩);go_ret;exact⟨k,rfl,hd.out⟩
   ·have HB:=jj hb;clear hb;go_wp2_with (go_at_call 112;(with_reducible refine (cf_w_no _ _ HB.out).mono ?_);rintro e w' ⟨rfl,rfl⟩);go_roundw
    case rel=>exact⟨k+1,by omega,by go_num,jj (ext_lt HG.out HB.out),hd⟩
    case measure=>simp [intOf];omega
  ·exfalso;obtain⟨i,hi,hb⟩:=HH.out;exact HG.out i (by omega) hb
theorem cf_w_miss (v:Value) (n:Nat) (f:Nat->Int) (w:World) (hv:Ints w v n f) (hn:n<=1048576) (miss:∀ i,i<n->¬ (f i<0\/1000<f i)) :
  Calls Tryz.prog 137 #[v,.func (.func 112) #[] #[]] w fun e w'=>e = .returned (.int .i64 (-1))/\Drawn w w':=by
 obtain⟨a,b,o,c,rfl,hs⟩:=hv;have HH:=jj miss;clear miss;go_enter Tryz.func137,Tryz.ntmps137;go_wp2;go_loopw [5,8] (fun _ i wr=>∃ k:Nat,k<=n/\i = .int .i64 (k:Nat)/\Hid (Drawn w wr)) (fun _ i _=>n - (intOf i).toNat)
 case atStart=>exact⟨0,by omega,rfl,jj (Drawn.refl _)⟩
 case round=>
  obtain⟨k,hk,rfl,hd⟩:=hrel;by_cases h:k<n
  ·have hix:=fun W=>ixI hs k c h W
   have hc:=(hs.drawn hd.out).cell k h;simp only [ic] at hc;have HB:=jj (HH.out k h);go_wp2_with (go_at_call 112;(with_reducible refine (cf_w_no _ _ HB.out).mono ?_);rintro e w' ⟨rfl,rfl⟩);go_roundw
   case rel=>exact⟨k+1,by omega,by go_num,hd⟩
   case measure=>simp [intOf];omega
  ·go_wp2;go_ret;exact⟨rfl,hd.out⟩
theorem cf_w_any (v:Value) (n:Nat) (f:Nat->Int) (r:Bool) (hr:r=true↔∃ i,i<n/\(f i<0\/1000<f i)) (w:World) (hv:Ints w v n f) (hn:n<=1048576) :
  Calls Tryz.prog 111 #[v,.func (.func 112) #[] #[]] w fun e w'=>e = .returned (.bool r)/\Drawn w w':=by
 have HV:=jj hv;obtain⟨a,b,o,c,rfl,hs⟩:=hv;clear hs;cases r with
 | true=>
  have HH:=jj (hr.1 rfl);clear hr;go_enter Tryz.func111,Tryz.ntmps111;go_wp2_with (go_at_call 137;(with_reducible refine (cf_w_hit _ n f _ HV.out hn HH.out).mono ?_);rintro e w' ⟨z,rfl,hd⟩;have hz:decide ((0:Int)<=(z:Int))=true:=(by simp));go_ret;exact⟨rfl,hd⟩
 | false=>
  have HH:=jj (show ∀ i,i<n->¬ (f i<0\/1000<f i) from fun i hi hb=>by have:=hr.2 ⟨i,hi,hb⟩;cases this);clear hr;go_enter Tryz.func111,Tryz.ntmps111;go_wp2_with (go_at_call 137;(with_reducible refine (cf_w_miss _ n f _ HV.out hn HH.out).mono ?_);rintro e w' ⟨rfl,hd⟩);go_ret;exact⟨rfl,hd⟩
theorem within_any (v:Value) (n:Nat) (f:Nat->Int) (r:Bool) (hr:r=true↔∀ i,i<n->0<=f i/\f i<=1000) (w:World) (hv:Ints w v n f) (hn:n<=1048576) :
  Calls Tryz.prog 70 #[v] w fun e w'=>e = .returned (.bool r)/\Drawn w w':=by
 have HV:=jj hv;obtain⟨a,b,o,c,rfl,hs⟩:=hv;clear hs
 have HH:Hid ((!r)=true↔∃ i,i<n/\(f i<0\/1000<f i)):=jj (by
  cases r
  ·simp only [Bool.not_false,true_iff];apply Classical.byContradiction;intro hne
   have:false=true:=hr.2 fun i hi=>by
    apply Classical.byContradiction;intro hx;exact hne ⟨i,hi,by omega⟩
   cases this
  ·simp only [Bool.not_true,Bool.false_eq_true,false_iff];rintro ⟨i,hi,hx⟩;have:=hr.1 rfl i hi;omega)
 clear hr;obtain⟨q,rfl⟩:∃ q,r = !q:=⟨!r,by simp⟩;rw [Bool.not_not] at HH;go_enter Tryz.func70,Tryz.ntmps70;go_wp2_with (go_at_call 111;(with_reducible refine (cf_w_any _ n f q HH.out _ HV.out hn).mono ?_);rintro e w' ⟨rfl,hd⟩);go_ret;exact⟨rfl,hd⟩
theorem square_any (v:Value) (n:Nat) (m:Nat->Nat) (f:Nat->Nat->Int) (r:Bool) (hr:r=true↔Debts n m f) (w:World) (hv:Mat w v n m f) (hn:n<=1048576) (hm:∀ i,i<n->m i<=1048576) :
  Calls Tryz.prog 69 #[v] w fun e w'=>e = .returned (.bool r)/\Drawn w w':=by
 obtain⟨a,b,o,c,ra,rb,ro,rc,rfl,hs⟩:=hv;have HR:=jj hr;have HMM:=jj hm;clear hr hm;by_cases h1:n<1
 ·obtain rfl:r=false:=bool_false HR.out (fun q=>by have:=q.1;omega);have d1:decide ((n:Int)<1)=true:=by simp;omega
  clear h1;go_enter Tryz.func69,Tryz.ntmps69;go_wp2;go_ret;exact⟨rfl,Drawn.refl _⟩
 ·have d1:decide ((n:Int)<1)=false:=by simp;omega
  by_cases h8:8<n
  ·obtain rfl:r=false:=bool_false HR.out (fun q=>by have:=q.2.1;omega);have d2:decide ((8:Int)<(n:Int))=true:=by simp;omega
   clear h1 h8;go_enter Tryz.func69,Tryz.ntmps69;go_wp2;go_ret;exact⟨rfl,Drawn.refl _⟩
  ·have d2:decide ((8:Int)<(n:Int))=false:=by simp;omega
   have HN:=jj (show 1<=n/\n<=8 by omega);clear h1 h8;go_enter Tryz.func69,Tryz.ntmps69;go_wp2;go_loopw [3,4,15] (fun _ _ i wr=>∃ k:Nat,k<=n/\i = .int .i64 (k:Nat)/\Hid (∀ i,i<k->m i=n/\f i i=0/\∀ j,j<n->0<=f i j/\f i j<=1000)/\Hid (Drawn w wr)) (fun _ _ i _=>n - (intOf i).toNat)
   case atStart=>exact⟨0,by omega,rfl,jj (fun i hi=>by omega),jj (Drawn.refl _)⟩
   case round=>
    obtain⟨k,hk,rfl,HG,hd⟩:=hrel;by_cases h:k<n
    ·have hix:=fun W=>ixM hs.top k c h W
     have hc:=(hs.top.drawn hd.out).cell k h;by_cases h1:m k=n
     ·have d3:(((m k:Nat):Int) != ((n:Nat):Int))=false:=by simp [h1]
      have HM:=jj h1;have HRow:Hid (Ints wr (.slice (ra k) (m k) (rc k)) (m k) (f k)):=jj ⟨ra k,rb k,ro k,rc k,rfl,(hs.row k h).drawn hd.out⟩;have hmk:=HMM.out k h;by_cases h2:∀ j,j<m k->0<=f k j/\f k j<=1000
      ·have H2:=jj h2;have hjx:=fun W=>ixI (hs.row k h) k (rc k) (by omega) W
       have hjc0:=jj ((hs.row k h).cell k (by omega));have HSL:=jj ((hs.row k h).lt (by omega));clear h1 h2;have HD0:=hd;by_cases h3:f k k=0
       ·have d4:(f k k != 0)=false:=by simpa using h3
        have H3:=jj h3;clear h3;go_wp2_with (go_at_call 70;(with_reducible refine (within_any _ (m k) (f k) true ⟨fun _=>H2.out,fun _=>rfl⟩ _ HRow.out hmk).mono ?_);rintro e w1 ⟨rfl,hd1⟩;have hd:=jj (hd.out.trans hd1);have hjc:=(hd.out.below w.heap.size).cell (p:=⟨rb k,ro k+k,none⟩) HSL.out;rw [hjc0.out] at hjc;simp only [ic] at hjc);go_roundw
        case rel=>exact⟨k+1,by omega,by go_num,jj (ext_lt HG.out ⟨HM.out,H3.out,fun j hj=>H2.out j (by rw [HM.out];exact hj)⟩),hd⟩
        case measure=>simp [intOf];omega
       ·have d4:(f k k != 0)=true:=by simpa using h3
        obtain rfl:r=false:=bool_false HR.out (fun q=>h3 (q.2.2 k h).2.1);clear h3;go_wp2_with (go_at_call 70;(with_reducible refine (within_any _ (m k) (f k) true ⟨fun _=>H2.out,fun _=>rfl⟩ _ HRow.out hmk).mono ?_);rintro e w1 ⟨rfl,hd1⟩;have hd:=jj (hd.out.trans hd1);have hjc:=(hd.out.below w.heap.size).cell (p:=⟨rb k,ro k+k,none⟩) HSL.out;rw [hjc0.out] at hjc;simp only [ic] at hjc);go_ret;exact⟨rfl,hd.out⟩
      ·obtain rfl:r=false:=bool_false HR.out (fun q=>h2 (fun j hj=>(q.2.2 k h).2.2 j (by rw [<-h1];exact hj)));have H2:=jj h2;clear h1 h2;go_wp2_with (go_at_call 70;(with_reducible refine (within_any _ (m k) (f k) false ⟨fun q=>(by cases q),fun q=>absurd q H2.out⟩ _ HRow.out hmk).mono ?_);rintro e w1 ⟨rfl,hd1⟩;have hd:=jj (hd.out.trans hd1));go_ret;exact⟨rfl,hd.out⟩
     ·have d3:(((m k:Nat):Int) != ((n:Nat):Int))=true:=by simp;omega
      obtain rfl:r=false:=bool_false HR.out (fun q=>h1 (q.2.2 k h).1);clear h1;go_wp2;go_ret;exact⟨rfl,hd.out⟩
    ·obtain rfl:k=n:=by omega
     obtain rfl:r=true:=HR.out.2 ⟨HN.out.1,HN.out.2,HG.out⟩;go_wp2;go_ret;exact⟨rfl,hd.out⟩
attribute [local go_sem ↓] Go.wp_at_zero Go.wp_at_succ
theorem Mat.row_len {w:World} {v:Value} {n:Nat} {m m':Nat->Nat} {f:Nat->Nat->Int} (h:Mat w v n m f) (hm:∀ i,i<n->m i=m' i):Mat w v n m' f:=by
 obtain⟨a,b,o,c,ra,rb,ro,rc,rfl,h⟩:=h;exact⟨a,b,o,c,ra,rb,ro,rc,rfl,⟨h.top.congr (fun i hi=>by rw [hm i hi]),fun i hi=>by rw [<-hm i hi];exact h.row i hi⟩⟩
theorem Own4.put3 {w:World} {b:Nat} {x y z u:Value} (h:Own4 w b x y z u) (v:Value):Own4 (w.setCell ⟨b,3,none⟩ v) b x y z v:=
 ⟨off_set (by decide) h.c0,off_set (by decide) h.c1,off_set (by decide) h.c2,self_set h.c3,fun o=>by rw [World.frozen?_setCell];exact h.f o,by simp only [World.setCell,Array.size_modify];exact h.lt⟩
theorem own_block {w w':World} {b:Nat} {row:Option Nat} {x y z u:Value} (h:Own4 w b x y z u) (hg:w.grownBy w' row) (hne:some b≠row):Own4 w' b x y z u:=
 have e:=hg.block b h.lt hne;have c:∀ o,w'.cell? ⟨b,o,none⟩=w.cell? ⟨b,o,none⟩:=fun o=>World.cell?_of_block (a:=⟨b,o,none⟩) e
 ⟨(c 0).trans h.c0,(c 1).trans h.c1,(c 2).trans h.c2,(c 3).trans h.c3,fun o=>(World.frozen?_of_block (a:=⟨b,o,none⟩) e).trans (h.f o),jm h.lt hg.size⟩
theorem read_ok (vc vd:Value) (n:Nat) (cash:Nat->Int) (m:Nat->Nat) (d:Nat->Nat->Int) (w:World) (hc:Ints w vc n cash) (hd:Mat w vd n m d) (hD:Debts n m d) (hC:∀ i,i<n->0<=cash i/\cash i<=1000) :
  Calls Tryz.prog 38 #[vc,vd] w fun e w'=>∃ b vt,e = .returned (.tuple #[.pointer (some ⟨b,0,none⟩),.bool true])/\IsMkt w' b n cash d vc vd vt/\Below w.heap.size w w':=by
 have HC:=jj hc;have HDM:=jj hd;have HDB:=jj hD;have HCB:=jj hC;have hn8:n<=8:=hD.2.1;obtain⟨ca,cb,co,cc,rfl,hcs⟩:=hc;obtain⟨da,db,d_o,dc,ra,rb,ro,rc,rfl,hdm⟩:=hd;have HM:=jj (show ∀ i,i<n->m i=n from fun i hi=>(hD.2.2 i hi).1);have HV:=jj (show ∀ i j,i<n->j<n->0<=d i j/\d i j<=1000 from fun i j hi hj=>(hD.2.2 i hi).2.2 j hj);have hneq:(((n:Nat):Int) != ((n:Nat):Int))=false:=by simp
 obtain⟨i0,hi,hz0,hz1,hz2⟩:=info_parts infoI;clear hD hC hcs;go_enter Tryz.func38,Tryz.ntmps38
 go_wp2_with (first
  | (go_at_call 69;(with_reducible refine (square_any _ n m d true ⟨fun _=>HDB.out,fun _=>rfl⟩ _ HDM.out (by omega) (fun i hi=>by rw [HM.out i hi];omega)).mono ?_);rintro e w1 ⟨rfl,hd1⟩)
  | (go_at_call 70;(with_reducible refine (within_any _ n cash true ⟨fun _=>HCB.out,fun _=>rfl⟩ _ (HC.out.drawn hd1) (by omega)).mono ?_);rintro e w2 ⟨rfl,hd2⟩))
 have hsz:w.heap.size=w2.heap.size:=by obtain⟨k1,rfl⟩:=hd1;obtain⟨k2,rfl⟩:=hd2;simp
 have KW:=jj (((hd1.below w.heap.size).trans (hd2.below w.heap.size)).alloc (Nat.le_of_eq hsz) (.cells #[.int .i64 (n:Nat),.slice ca n cc,.slice da n dc,.slice none 0 0] 87));have PM:=jj (own4_new w2 _ rfl (.int .i64 (n:Nat)) (.slice ca n cc) (.slice da n dc) (.slice none 0 0) 87);generalize hmb:w2.heap.size=mb at *
 have hmb2:=jj hmb;clear hmb;go_loopw [35] (fun v35 wr=>∃ k:Nat,k<=n/\v35 = .int .i64 (k:Nat)/\∃ va vk,Hid (wr.ownsRow (mb+1) 3 1 (.slice va k vk) k (ics (fun i=>sumF (d i) n) k))/\Hid (Own4 wr mb (.int .i64 (n:Nat)) (.slice ca n cc) (.slice da n dc) (.slice va k vk))/\Hid (Below w.heap.size w wr)) (fun v35 _=>n - (intOf v35).toNat)
 case atStart=>exact⟨0,by omega,rfl,none,0,jj (World.ownsRow_nil _ _ _ _),PM,KW⟩
 case round=>
  clear PM KW;obtain⟨k,hk,rfl,va,vk,OW,PM,KW⟩:=hrel;by_cases h:k<n
  ·have hdr:=hdm.mono KW.out jl;have hix:=fun W=>ixM hdr.top k dc h W
   have hcr:=hdr.top.cell k h;have hrow:=hdr.row k h;have HROW:=jj hrow;have hmk:=HM.out k h;rw [hmk] at hcr;clear hdr hrow hmk;obtain⟨p0,p1,p2,p3,pf,pl⟩:=PM.out;go_wp2
   go_loop [9,41] (fun v9 v41=>∃ l:Nat,l<=n/\v41 = .int .i64 (l:Nat)/\v9 = .int .i64 (sumF (d k) l)) (fun _ v41=>n - (intOf v41).toNat)
   case atStart=>exact⟨0,by omega,rfl,rfl⟩
   case round=>
    obtain⟨l,hl,rfl,rfl⟩:=hrel;by_cases h2:l<n
    ·have hrow:=HROW.out;rw [HM.out k h] at hrow;have hjx:=fun W=>ixI hrow l (rc k) h2 W
     have hjc:=hrow.cell l h2;simp only [ic] at hjc;obtain⟨v1,v2⟩:=HV.out k l h h2;obtain⟨s1,s2⟩:=sumF_bound (d k) l 1000 (fun i hi=>by have:=HV.out k i h (by omega);omega);have s3 : -(8000:Int)<=sumF (d k) l:=by omega
     have s4:sumF (d k) l<=8000:=by omega
     clear s1 s2 hrow;go_wp2
     go_round
     case rel=>exact⟨l+1,by omega,by go_num,rfl⟩
     case measure=>simp [intOf];omega
    ·obtain rfl:l=n:=by omega
     clear hix hcr;have hbase:mb+1<=(wr.alloc (.cells #[.int .i64 (sumF (d k) l)] 3)).heap.size:=by simp;omega
     have hnews:∀ j u,[Value.int .i64 (sumF (d k) l)][j]? = some u->(wr.alloc (.cells #[.int .i64 (sumF (d k) l)] 3)).cell? ((⟨wr.heap.size,0,none⟩:Addr).add j)=some u:=fun j u hj=>by
      match j,hj with
      | 0,hj=>simp at hj;subst hj;simp [go_sem,Addr.add]
     have hone:∀ u ∈ [Value.int .i64 (sumF (d k) l)],u.oneCell'=true:=fun u hu=>by simp at hu;subst hu;rfl
     have HBS:=jj hbase;have HNW:=jj hnews;have HON:=jj hone;clear hbase hnews hone;go_wp2_with (at_builtin;refine wpList_append_own _ rfl (.tmp 53) (.tmp 55) 24 rfl (mb+1) 3 i0 (.int .i64 0) 1 8 Tryz.underlying24 hi hz0 hz1 hz2 rfl (by decide) (.slice va k vk) k (ics (fun i=>sumF (d i) l) k) rfl (OW.out.alloc _) ⟨wr.heap.size,0,none⟩ 1 1 [.int .i64 (sumF (d k) l)] rfl rfl HNW.out HON.out (by unfold maxLen;omega) (by omega) HBS.out ?_;intro v' w3 hown hgrow _;have hbk:=(OW.out.alloc (.cells #[.int .i64 (sumF (d k) l)] 3)).lt;have PM:=jj (own_block (PM.out.alloc _) hgrow (fun e=>by have:=(hbk mb e.symm).1;omega));have KW:=jj ((KW.out.alloc KW.out.size _).grown hgrow (by have:=KW.out.size;simp;omega) (fun kk e=>by have:=(hbk kk e).1;have:=hmb2.out;omega));rw [ics_succ] at hown;obtain⟨va',vk',rfl⟩:=own_shape hown;have OW:=jj hown;obtain⟨q0,q1,q2,q3,qf,ql⟩:=PM.out;clear hown hgrow hbk);go_roundw
     case rel=>
      refine⟨k+1,by omega,by go_num,va',vk',?_,?_,?_⟩
      ·exact jj (OW.out.kept (row:=some mb) (grown_set (World.grownBy.refl _ _) 3 _) (by
        rcases hb:(Value.slice va' (k+1) vk').ownBlock with _ | g
        ·exact .inl rfl
        ·right;intro e;have:=(OW.out.lt g hb).1;have e2:=Option.some.inj e;omega))
      ·exact jj (PM.out.put3 _)
      ·exact jj (KW.out.setCell (by show w.heap.size<=mb;omega) _)
     case measure=>simp [intOf];omega
  ·obtain rfl:k=n:=by omega
   go_wp2;go_ret2;refine⟨mb,_,rfl,⟨PM.out.c0,PM.out.c1,PM.out.c2,PM.out.c3,HC.out.mono KW.out jl,?_,ints_of_own OW.out,PM.out.lt⟩,KW.out⟩;have h:=HDM.out.mono KW.out jl;exact h.row_len HM.out
structure OwnMat (w:World) (R n:Nat) (r:Nat->Nat->Int):Prop where
 top:w.rowIs R 24 n (fun i=>.slice (some ⟨R+1+i,0,none⟩) n n)
 row:∀ i,i<n->w.rowIs (R+1+i) 3 n (ic (r i))
theorem OwnMat.isMat {w:World} {R n:Nat} {r:Nat->Nat->Int} (h:OwnMat w R n r):IsMat w (some ⟨R,0,none⟩) R 0 n n (fun i=>some ⟨R+1+i,0,none⟩) (fun i=>R+1+i) (fun _=>0) (fun _=>n) (fun _=>n) r:=
 ⟨rowIs_sl h.top,fun i hi=>rowIs_sl (h.row i hi)⟩
theorem OwnMat.mat {w:World} {R n:Nat} {r:Nat->Nat->Int} (h:OwnMat w R n r):Mat w (.slice (some ⟨R,0,none⟩) n n) n (fun _=>n) r:=⟨_,_,_,_,_,_,_,_,rfl,h.isMat⟩
theorem OwnMat.below {w w':World} {R n B:Nat} {r:Nat->Nat->Int} (h:OwnMat w R n r) (hb:Below B w w') (hB:R+1+n<=B):OwnMat w' R n r:=
 ⟨rowIs_below h.top hb (by omega),fun i hi=>rowIs_below (h.row i hi) hb (by omega)⟩
theorem OwnMat.set {w:World} {R n i j:Nat} {r:Nat->Nat->Int} (h:OwnMat w R n r) (hi:i<n) (x:Int):OwnMat (w.setCell ⟨R+1+i,j,none⟩ (.int .i64 x)) R n (upd2 r i j x):=
 ⟨h.top.setOther (by dsimp only;omega) _,fun a ha=>by
  by_cases e:a=i
  ·subst e;refine ((h.row a ha).set j _).congr fun b hb=>?_
   by_cases e2:b=j
   ·simp [ic,upd2,e2]
   ·simp [ic,upd2,e2]
  ·refine ((h.row a ha).setOther (by dsimp only;omega) _).congr fun b hb=>?_
   simp [ic,upd2,e]⟩
theorem infoIs:(Tryz.prog.info? 24).map (fun i=>(i.zero,i.size,i.bytes))=some (some (.slice none 0 0),1,24):=by kernel_rfl
theorem copy_new (w:World) (n:Nat) (a:Option Addr) (b o c:Nat) (f:Nat->Int) (hn:0<n) (h:IsSl w a b o c n (ic f)) :
  (Builtin.copy_ #[24,24] 3 #[.slice (some ⟨w.heap.size,0,none⟩) n n,.slice a n c]).run Tryz.prog (w.alloc (.cells (madeCells #[.int .i64 0] n) 3)) =
   .ok (.int .i64 (n:Nat)) (w.alloc (.cells (ics f n).toArray 3)):=by
 obtain rfl:=h.at_ hn;have hz:(madeCells #[Value.int .i64 0] n).size=n:=size_madeCells _ _
 have e:=run_copy_rowS (P:=Tryz.prog) (w.alloc (.cells (madeCells #[.int .i64 0] n) 3)) 24 24 3 3 w.heap.size 0 n n ⟨b,o,none⟩ n c (madeCells #[.int .i64 0] n) 3
  (ics f n) 1 n Tryz.underlying24 (by kernel_rfl) (by unfold World.alloc;simp) (by simp) (by rw [ics_length];omega) ?_ (by rw [ics_length,hz];omega) (ics_one f n)
 ·have hl:((madeCells #[Value.int .i64 0] n).toList.take 0 ++ ics f n ++ (madeCells #[Value.int .i64 0] n).toList.drop (0+(ics f n).length)).toArray=(ics f n).toArray:=by
   rw [ics_length,Nat.zero_add,List.drop_eq_nil_of_le (by rw [Array.length_toList,hz];omega)];simp
  rw [e,hl,alloc_setRow];rfl
 ·intro j v hj;have hlt:=h.lt hn
  have hjn:j<n:=by
   have:=(List.getElem?_eq_some_iff.1 hj).1;rw [ics_length] at this;exact this
  rw [ics_get f n j hjn] at hj;have hadd:(⟨b,o,none⟩:Addr).add j=⟨b,o+j,none⟩:=by unfold Addr.add;split <;> simp_all
  rw [hadd,<-Option.some.inj hj];exact (World.cell?_alloc_some w _ _ (by rw [h.cell j hjn];rfl)).trans (h.cell j hjn)
theorem row_of_ics (w:World) (b n:Nat) (f:Nat->Int) (hb:b=w.heap.size):(w.alloc (.cells (ics f n).toArray 3)).rowIs b 3 n (ic f):=by
 subst hb;have h:=World.rowIs_alloc w (ics f n).toArray 3 (ic f) (fun i hi=>by simp [ics_length] at hi;simp [ics,hi]);simpa [ics_length] using h
theorem copied_any (v:Value) (n:Nat) (d:Nat->Nat->Int) (w:World) (hv:Mat w v n (fun _=>n) d) (h0:0<n) (hn:n<=8) :
  Calls Tryz.prog 116 #[v] w fun e w'=>e = .returned (.slice (some ⟨w.heap.size,0,none⟩) n n)/\OwnMat w' w.heap.size n d/\w'.heap.size=w.heap.size+1+n/\Below w.heap.size w w':=by
 obtain⟨a,b,o,c,ra,rb,ro,rc,rfl,hs⟩:=hv;have hmk:=run_make_row' (P:=Tryz.prog) 25 24 (.slice none 0 0) 24 Tryz.underlying25 infoIs rfl .i64 .i64 n (by omega) (by omega);have hmk2:=run_make_row' (P:=Tryz.prog) 24 3 (.int .i64 0) 8 Tryz.underlying24 infoI rfl .i64 .i64 n (by omega) (by omega);have HROW:=jj (World.rowIs_made w (.slice none 0 0) n 24);have KW0:=jj ((jr w).alloc jl (.cells (madeCells #[.slice none 0 0] n) 24));have HS:=jj hs;clear hs;go_enter Tryz.func116,Tryz.ntmps116;go_wp2
 go_loopw [4,5,11] (fun _ _ v11 wr=>∃ k:Nat,k<=n/\v11 = .int .i64 (k:Nat)/\Hid (wr.rowIs w.heap.size 24 n (fun i=>if i<k then .slice (some ⟨w.heap.size+1+i,0,none⟩) n n else .slice none 0 0))/\
   Hid (∀ i,i<k->wr.rowIs (w.heap.size+1+i) 3 n (ic (d i)))/\Hid (wr.heap.size=w.heap.size+1+k)/\Hid (Below w.heap.size w wr)) (fun _ _ v11 _=>n - (intOf v11).toNat)
 case atStart=>exact⟨0,by omega,rfl,jj (HROW.out.congr fun i hi=>by simp),jj (fun i hi=>by omega),jj (by simp),KW0⟩
 case round=>
  clear KW0 HROW;obtain⟨k,hk,rfl,TOP,ROWS,SZ,KW⟩:=hrel;by_cases h:k<n
  ·have hm:=HS.out.mono KW.out jl;have hix:=fun W=>ixM hm.top k c h W
   have hcr:=hm.top.cell k h;have htx:=fun W=>ixM (rowIs_sl TOP.out) k n h W
   simp only [Nat.zero_add] at htx;have htc:=TOP.out.cell h;rw [if_neg (Nat.lt_irrefl k)] at htc;have htf:=TOP.out.frozen k;have hsz:=SZ.out;have hlt:w.heap.size<wr.heap.size:=TOP.out.lt;have hrw:=hm.row k h;have HRW:=jj hrw;have HSL:Hid (IsSl (wr.setCell ⟨w.heap.size,k,none⟩ (.slice (some ⟨wr.heap.size,0,none⟩) n n)) (ra k) (rb k) (ro k) (rc k) n (ic (d k))):=jj (hrw.setCell _ htc (fun i hi e=>by simp only [ic] at e;cases e));have hcp:=copy_new (wr.setCell ⟨w.heap.size,k,none⟩ (.slice (some ⟨wr.heap.size,0,none⟩) n n)) n (ra k) (rb k) (ro k) (rc k) (d k) h0 HSL.out;have hss:(wr.setCell ⟨w.heap.size,k,none⟩ (.slice (some ⟨wr.heap.size,0,none⟩) n n)).heap.size=wr.heap.size:=by simp [World.setCell]
   rw [hss] at hcp;clear hm hrw hss hsz;go_wp2;go_roundw
   case rel=>
    have hb1:Below w.heap.size w ((wr.setCell ⟨w.heap.size,k,none⟩ (.slice (some ⟨wr.heap.size,0,none⟩) n n)).alloc (.cells (ics (d k) n).toArray 3)):=
     (KW.out.setCell jl _).alloc (by simp only [World.setCell,Array.size_modify];exact KW.out.size) _
    have e1:=SZ.out;refine⟨k+1,by omega,by go_num,jj ?_,jj ?_,jj ?_,jj hb1⟩
    ·refine ((TOP.out.set k _).alloc _).congr fun i hi=>?_
     by_cases e:i=k
     ·subst e;rw [if_pos rfl,if_pos (by omega),e1]
     ·rw [if_neg e];by_cases e2:i<k
      ·rw [if_pos e2,if_pos (by omega)]
      ·rw [if_neg e2,if_neg (by omega)]
    ·intro i hi;by_cases e:i=k
     ·subst e;exact row_of_ics _ _ n (d i) (by simp only [World.setCell,Array.size_modify];omega)
     ·exact ((ROWS.out i (by omega)).setOther (by dsimp only;omega) _).alloc _
    ·simp [World.setCell];omega
   case measure=>simp [intOf];omega
  ·obtain rfl:k=n:=by omega
   go_wp2;go_ret;refine⟨rfl,⟨TOP.out.congr fun i hi=>by rw [if_pos hi],ROWS.out⟩,SZ.out,KW.out⟩
end Go.Proofs.YtgmopcncbpdniaaGreat
