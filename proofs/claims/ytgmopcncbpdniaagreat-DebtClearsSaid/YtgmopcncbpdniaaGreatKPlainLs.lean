import Derived.Test.YtgmopcncbpdniaaGreatKShelf
import Derived.Test.YtgmopcncbpdniaaGreatKPlainV
set_option linter.unusedVariables false
set_option linter.unusedSimpArgs false
namespace Go.Proofs.YtgmopcncbpdniaaGreat
section
variable {n:Nat} {cash:Nat->Int} {d:Nat->Nat->Int} {A B:Nat->Bool} {x y:Nat->Rat}
def codeB (n:Nat) (d:Nat->Nat->Int) (s i:Nat):Bool:=s.testBit i || decide (sumF (d i) n=0)
theorem Mon.congr {c:Nat->Rat} {S:Nat->Nat->Rat} (e:∀ i,i<n->A i=B i) {k:Nat} (h:Mon n c S A k):Mon n c S B k:=fun M h1 h2=>h M h1 (fun i j hi hj hA hs=>h2 i j hi hj (hA.imp (fun q=>by rw [<-e i hi];exact q) id) hs)
theorem LsF.congr (e:∀ i,i<n->A i=B i) (h:LsF n cash d A x):LsF n cash d B x:=by
 have e':∀ i,i<n->B i=A i:=fun i hi=>(e i hi).symm
 refine⟨fun Z hZ hcl=>h.nc Z (fun i hz=>⟨(hZ i hz).1,by rw [e i (hZ i hz).1];exact (hZ i hz).2.1,Mon.congr e' (hZ i hz).2.2⟩) hcl,⟨fun i hi hA=>h.face.on i hi (by rw [e i hi];exact hA),fun i hi hA hM=>h.face.part i hi (by rw [e i hi];exact hA) (Mon.congr e' hM),fun i hi hA hM=>h.face.none i hi (by rw [e i hi];exact hA) (fun q=>hM (Mon.congr e q))⟩,h.clr⟩
theorem code_ex (A:Nat->Bool):∀ n,∃ s,s<2 ^ n/\∀ i,i<n->s.testBit i=A i
 | 0=>⟨0,by decide,fun i hi=>by omega⟩
 | n+1=>by
  obtain⟨s,hs,h⟩:=code_ex A n;cases hA:A n
  ·refine⟨s,by rw [Nat.pow_succ];omega,fun i hi=>?_⟩;by_cases e:i=n
   ·subst e;rw [Nat.testBit_lt_two_pow hs,hA]
   ·exact h i (by omega)
  ·refine⟨2 ^ n+s,by rw [Nat.pow_succ];omega,fun i hi=>?_⟩;by_cases e:i=n
   ·subst e;rw [Nat.testBit_two_pow_add_eq,Nat.testBit_lt_two_pow hs,hA];rfl
   ·rw [Nat.testBit_two_pow_add_gt (by omega)];exact h i (by omega)
structure Lst (n:Nat) (cash:Nat->Int) (d:Nat->Nat->Int) (x:Nat->Rat):Prop where
 clr:ClrQ n (cashQ cash) (totQ n d) (shQ n d) x
 le:∀ y,ClrQ n (cashQ cash) (totQ n d) (shQ n d) y->∀ i,i<n->x i<=y i
 set:∃ s,s<2 ^ n/\LsF n cash d (codeB n d s) x
theorem lst_ex (hR:Rng n cash d) (hd:∀ i j,0<=d i j):∃ x,Lst n cash d x:=by
 have hm:=mktS_of hR hd;obtain⟨x,hx,hl⟩:=least_ex hm;obtain⟨s,hs,hsb⟩:=code_ex (fulB n (cashQ cash) (totQ n d) (shQ n d) x) n;refine⟨x,hx.clr,fun y hy=>hl y hy.pre,s,hs,LsF.congr (fun i hi=>?_) ⟨hx.nc,hx.face,hx.clr⟩⟩;unfold codeB;rw [hsb i hi];by_cases e:sumF (d i) n=0
 ·rw [decide_eq_true e,Bool.or_true];refine (fulB_iff hi).2 ?_;have h1:totQ n d i=0:=by unfold totQ;rw [e];rfl
  rw [h1];have h2:=hm.mq.c0 i hi;have h3:=hasP_nn hm.mq hx.clr.pos i;unfold hasP;grind
 ·rw [decide_eq_false e,Bool.or_false]
def NoneF (n:Nat) (cash:Nat->Int) (d:Nat->Nat->Int) (s:Nat):Prop:=∀ t,t<s->∀ x,¬ LsF n cash d (codeB n d t) x
structure BestF (n:Nat) (cash:Nat->Int) (d:Nat->Nat->Int) (s:Nat) (x:Nat->Rat):Prop where
 ls:∃ t,LsF n cash d (codeB n d t) x
 best:∀ t,t<s->∀ y,LsF n cash d (codeB n d t) y->sumQ x n<=sumQ y n
theorem NoneF.skip {s:Nat} (h:NoneF n cash d s) (hn:∀ x,¬ LsF n cash d (codeB n d s) x):NoneF n cash d (s+1):=fun t ht=>by
 by_cases e:t=s
 ·subst e;exact hn
 ·exact h t (by omega)
theorem LsF.uniq (hR:Rng n cash d) (hd:∀ i j,0<=d i j) (hx:LsF n cash d A x) (hy:LsF n cash d A y):sumQ x n=sumQ y n:=sumQ_congr n (face_uniq hR hd hx.nc hx.face hy.face)
theorem NoneF.first (hR:Rng n cash d) (hd:∀ i j,0<=d i j) {s:Nat} (h:NoneF n cash d s) (hx:LsF n cash d (codeB n d s) x):BestF n cash d (s+1) x:=⟨⟨s,hx⟩,fun t ht y hy=>by
 by_cases e:t=s
 ·subst e;rw [LsF.uniq hR hd hx hy];exact Rat.le_refl
 ·exact absurd hy (h t (by omega) y)⟩
theorem BestF.skip {s:Nat} (h:BestF n cash d s x) (hn:∀ x,¬ LsF n cash d (codeB n d s) x):BestF n cash d (s+1) x:=⟨h.ls,fun t ht y hy=>by
 by_cases e:t=s
 ·subst e;exact absurd hy (hn y)
 ·exact h.best t (by omega) y hy⟩
theorem BestF.keep (hR:Rng n cash d) (hd:∀ i j,0<=d i j) {s:Nat} (h:BestF n cash d s x) (hy:LsF n cash d (codeB n d s) y) (hle:¬ sumQ y n<sumQ x n):BestF n cash d (s+1) x:=⟨h.ls,fun t ht z hz=>by
 by_cases e:t=s
 ·subst e;rw [<-LsF.uniq hR hd hy hz];exact Rat.not_lt.1 hle
 ·exact h.best t (by omega) z hz⟩
theorem BestF.better (hR:Rng n cash d) (hd:∀ i j,0<=d i j) {s:Nat} (h:BestF n cash d s x) (hy:LsF n cash d (codeB n d s) y) (hlt:sumQ y n<sumQ x n):BestF n cash d (s+1) y:=⟨⟨s,hy⟩,fun t ht z hz=>by
 by_cases e:t=s
 ·subst e;rw [LsF.uniq hR hd hy hz];exact Rat.le_refl
 ·exact Rat.le_trans (Rat.le_of_lt hlt) (h.best t (by omega) z hz)⟩
theorem NoneF.end_ (hR:Rng n cash d) (hd:∀ i j,0<=d i j) (h:NoneF n cash d (2 ^ n)):False:=by
 obtain⟨x,hx⟩:=lst_ex hR hd;obtain⟨s,hs,hl⟩:=hx.set;exact h s hs x hl
theorem BestF.end_ (hR:Rng n cash d) (hd:∀ i j,0<=d i j) (h:BestF n cash d (2 ^ n) x):ClrQ n (cashQ cash) (totQ n d) (shQ n d) x/\∀ y,ClrQ n (cashQ cash) (totQ n d) (shQ n d) y->∀ i,i<n->x i<=y i:=by
 obtain⟨l,hl⟩:=lst_ex hR hd;obtain⟨s,hs,hls⟩:=hl.set;obtain⟨t,hx⟩:=h.ls;have h1:=hl.le x hx.clr;have h2:=sumQ_le_eq n h1 (h.best s hs l hls);exact⟨hx.clr,fun y hy i hi=>by rw [<-h2 i hi];exact hl.le y hy i hi⟩
theorem LsF.small (hR:Rng n cash d) (hn:n<=8) (hd:∀ i j,0<=d i j) (h:LsF n cash d A x) (i:Nat) (hi:i<n):(x i).num.natAbs<=100000*bdI 200000 8/\(x i).den<=100000*bdI 200000 8:=by
 obtain⟨P,hP⟩:∃ P:Nat->Bool,∀ i,P i=true↔(A i=false/\Mon n (cashQ cash) (shQ n d) A i):=⟨fun i=>@decide _ (Classical.propDecidable (A i=false/\Mon n (cashQ cash) (shQ n d) A i)),fun i=>@decide_eq_true_iff _ (Classical.propDecidable _)⟩;have hF:NoClosed n (shQ n d) (fun i=>P i=true):=fun Z hZ hcl=>h.nc Z (fun i hz=>⟨(hZ i hz).1,(hP i).1 (hZ i hz).2⟩) hcl
 have hs:SolF n (cashQ cash) (totG (fun i=>!A i && !P i) n d) (shQ n d) P x:=⟨fun i hi hp=>h.face.part i hi ((hP i).1 hp).1 ((hP i).1 hp).2,fun i hi hp=>by
  rw [totG_le];cases hA:A i
  ·simp only [hp,Bool.not_false,Bool.and_self,if_true];exact h.face.none i hi hA (fun q=>by rw [(hP i).2 ⟨hA,q⟩] at hp;cases hp)
  ·simp only [Bool.not_true,Bool.false_and];exact h.face.on i hi hA⟩
 exact (pay_smallG hR hn hd hF hs i hi).2
end
end Go.Proofs.YtgmopcncbpdniaaGreat
