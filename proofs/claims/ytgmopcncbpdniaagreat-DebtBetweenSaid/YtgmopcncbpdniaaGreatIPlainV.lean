import Derived.Test.YtgmopcncbpdniaaGreatIPlainL
import Derived.Test.YtgmopcncbpdniaaGreatIRNum
import Derived.Test.YtgmopcncbpdniaaGreatIMclr
set_option linter.unusedVariables false
set_option linter.unusedSimpArgs false
namespace Go.Proofs.YtgmopcncbpdniaaGreat
section
variable {n:Nat} {cash:Nat→Int} {d:Nat→Nat→Int} {A P M L L0:Nat→Bool} {b:Bool} {i j:Nat}
theorem tot_zero {j:Nat} (h:totQ n d j=0):sumF (d j) n=0:=by
 unfold totQ at h
 have h2:((sumF (d j) n:Int):Rat)=((0:Int):Rat):=h
 exact Rat.intCast_inj.1 h2
theorem mktS_of (hR:Rng n cash d) (hd:∀ i j,0≤d i j):MktS n (cashQ cash) (totQ n d) (shQ n d):=
 ⟨mktQ_of hR hd,fun j hj h=>shQ_sum hd j (fun e=>by unfold totQ at h;rw [e] at h;exact absurd h (by decide)),fun j hj h i=>by
  have:=tot_zero h
  unfold shQ shareQ;rw [if_pos this]⟩
theorem sh_iff (hd:∀ i j,0≤d i j) (j i:Nat) (hi:i<n):0<shQ n d j i↔0<d j i:=by
 constructor
 ·intro h
  refine Classical.byContradiction (fun q=>?_)
  have h2:=hd j i
  rw [shQ_none (by omega)] at h
  exact absurd h Rat.lt_irrefl
 ·intro h
  have h1:=sumF_mem (hd j) n i hi
  rw [shQ_div (by omega),Rat.div_def]
  exact Rat.mul_pos (Rat.intCast_pos.2 h) (inv_pos' (Rat.intCast_pos.2 (by omega)))
theorem mon_iff (hd:∀ i j,0≤d i j) (k:Nat):MonI n cash d A k↔Mon n (cashQ cash) (shQ n d) A k:=by
 have hc:∀ i,0<cashQ cash i↔0<cash i:=fun i=>Rat.intCast_pos
 constructor
 ·intro h M h1 h2
  exact h M (fun i hi q=>h1 i hi ((hc i).2 q)) (fun i j hi hj q r=>h2 i j hi hj q ((sh_iff hd i j hj).2 r))
 ·intro h M h1 h2
  exact h M (fun i hi q=>h1 i hi ((hc i).1 q)) (fun i j hi hj q r=>h2 i j hi hj q ((sh_iff hd i j hj).1 r))
theorem gd_iff {q:Nat→Rat} (hR:Rng n cash d) (hd:∀ i j,0≤d i j):(∀ i,i<n→GdQ n cash d q i)↔ClrQ n (cashQ cash) (totQ n d) (shQ n d) q:=by
 constructor
 ·intro h
  refine⟨fun i hi=>(h i hi).1,fun i hi=>?_,fun i hi=>?_,fun i hi=>?_⟩
  ·have:=(h i hi).2;unfold wantQ at this;split at this <;> grind
  ·have:=(h i hi).2;unfold wantQ at this;split at this <;> grind
  ·have:=(h i hi).2;unfold wantQ at this;split at this
   ·exact .inl this
   ·exact .inr this
 ·intro h i hi
  refine⟨h.pos i hi,?_⟩
  unfold wantQ
  have h1:=h.tot i hi;have h2:=h.has i hi
  rcases h.eq i hi with e | e
  ·split <;> grind
  ·split <;> grind
structure LsF (n:Nat) (cash:Nat→Int) (d:Nat→Nat→Int) (A:Nat→Bool) (x:Nat→Rat):Prop where
 nc:NoClosed n (shQ n d) (fun i=>A i=false∧Mon n (cashQ cash) (shQ n d) A i)
 face:Face n (cashQ cash) (totQ n d) (shQ n d) A x
 clr:ClrQ n (cashQ cash) (totQ n d) (shQ n d) x
structure LRel (n:Nat) (d:Nat→Nat→Int) (P A L0 L:Nat→Bool) (b:Bool) (i j:Nat):Prop where
 base:∀ k,k<n→A k=true→L k=true
 snd:∀ Z:Nat→Prop,(∀ k,Z k→k<n∧A k=false)→(∀ k,Z k→∀ l,l<n→0<d k l→Z l)→∀ k,Z k→L k=false
 yes:b=true→rankF L0 n<rankF L n
 no:b=false→L=L0∧∀ a c,a<n→c<n→(a<i∨(a=i∧c<j))→P a=true→L a=false→0<d a c→L c=false
structure LSt (n:Nat) (d:Nat→Nat→Int) (P A L:Nat→Bool) (b:Bool):Prop where
 base:∀ k,k<n→A k=true→L k=true
 snd:∀ Z:Nat→Prop,(∀ k,Z k→k<n∧A k=false)→(∀ k,Z k→∀ l,l<n→0<d k l→Z l)→∀ k,Z k→L k=false
 fin:b=false→∀ a c,a<n→c<n→P a=true→L a=false→0<d a c→L c=false
theorem LSt.start (h:∀ k,k<n→L k=A k):LSt n d P A L true:=⟨fun k hk hA=>by rw [h k hk];exact hA,fun Z hZ _ k hk=>by rw [h k (hZ k hk).1];exact (hZ k hk).2,fun e=>nomatch e⟩
theorem LSt.rel (h:LSt n d P A L b):LRel n d P A L L false 0 0:=⟨h.base,h.snd,(fun e=>nomatch e),fun _=>⟨rfl,fun a c _ _ h=>by omega⟩⟩
theorem LRel.row (h:LRel n d P A L0 L b i n):LRel n d P A L0 L b (i+1) 0:=⟨h.base,h.snd,h.yes,fun e=>⟨(h.no e).1,fun a c ha hc q=>(h.no e).2 a c ha hc (by omega)⟩⟩
theorem LRel.skip (h:LRel n d P A L0 L b i j) (hn:¬ (P i=true∧L i=false∧0<d i j∧L j=true)):LRel n d P A L0 L b i (j+1):=
 ⟨h.base,h.snd,h.yes,fun e=>⟨(h.no e).1,fun a c ha hc q hP hL hd=>by
  by_cases g:a=i∧c=j
  ·obtain⟨rfl,rfl⟩:=g
   cases hM:L c
   ·rfl
   ·exact absurd ⟨hP,hL,hd,hM⟩ hn
  ·exact (h.no e).2 a c ha hc (by omega) hP hL hd⟩⟩
theorem LRel.set (h:LRel n d P A L0 L b i j) (hi:i<n) (hj:j<n) (h1:0<d i j) (h2:L i=false) (h3:L j=true):LRel n d P A L0 (fun k=>if k=i then true else L k) true i (j+1):=
 ⟨fun k hk hA=>by
  by_cases e:k=i
  ·rw [if_pos e]
  ·rw [if_neg e];exact h.base k hk hA,fun Z hZ hcl k hk=>by
  by_cases e:k=i
  ·subst e
   have:=h.snd Z hZ hcl j (hcl k hk j hj h1)
   rw [h3] at this;cases this
  ·rw [if_neg e];exact h.snd Z hZ hcl k hk,fun _=>by
  rw [rankF_upd h2 n hi]
  cases hb:b
  ·rw [(h.no hb).1];omega
  ·have:=h.yes hb;omega,fun e=>nomatch e⟩
theorem LRel.st (h:LRel n d P A L0 L b n 0):LSt n d P A L b:=⟨h.base,h.snd,fun e a c ha hc=>(h.no e).2 a c ha hc (by omega)⟩
theorem LRel.less {g:Nat} (h:LRel n d P A L0 L b n 0) (hg:2*(n - rankF L0 n)+1≤g):2*(n - rankF L n)+(if b then 1 else 0)<g:=by
 cases hb:b
 ·rw [(h.no hb).1];simp;omega
 ·have h1:=h.yes hb
  have h2:=rankF_le L n
  simp;omega
theorem ls_stuck (hd:∀ i j,0≤d i j) (hA0:∀ k,k<n→sumF (d k) n=0→A k=true) (hP:∀ k,k<n→(P k=true↔A k=false∧MonI n cash d A k)) (h:LSt n d P A L false) {i:Nat} (hi:i<n) (h1:P i=true) (h2:L i=false) (x:Nat→Rat):¬ LsF n cash d A x:=fun hx=>by
 refine hx.nc (fun k=>k<n∧P k=true∧L k=false) (fun k hk=>⟨hk.1,((hP k hk.1).1 hk.2.1).1,(mon_iff hd k).1 ((hP k hk.1).1 hk.2.1).2⟩) (fun j hj=>?_) i ⟨hi,h1,h2⟩
 obtain⟨hj,hPj,hLj⟩:=hj
 have hp:=(hP j hj).1 hPj
 refine⟨shQ_sum hd j (fun e=>by have:=hA0 j hj e;rw [hp.1] at this;cases this),fun l hl hn=>?_⟩
 refine shQ_none (Classical.byContradiction (fun q=>hn ?_))
 have hpos:0<d j l:=by have:=hd j l;omega
 have hLl:=h.fin rfl j l hj hl hPj hLj hpos
 refine⟨hl,(hP l hl).2 ⟨?_,MonI.step hj hl (.inr hp.2) hpos⟩,hLl⟩
 cases hA:A l
 ·rfl
 ·have:=h.base l hl hA;rw [hLl] at this;cases this
theorem ls_nc (hd:∀ i j,0≤d i j) (hP:∀ k,k<n→(P k=true↔A k=false∧MonI n cash d A k)) (h:LSt n d P A L false) (hall:∀ k,k<n→P k=true→L k=true):NoClosed n (shQ n d) (fun i=>P i=true):=fun Z hZ hcl k hk=>by
 have:=h.snd Z (fun k hk=>⟨(hZ k hk).1,((hP k (hZ k hk).1).1 (hZ k hk).2).1⟩) (fun k hk l hl hp=>Classical.byContradiction (fun q=>by
  have h1:=(hcl k hk).2 l hl q
  have h2:=(sh_iff hd k l hl).2 hp
  rw [h1] at h2;exact absurd h2 Rat.lt_irrefl)) k hk
 rw [hall k (hZ k hk).1 (hZ k hk).2] at this
 cases this
theorem ls_face (hd:∀ i j,0≤d i j) (hP:∀ k,k<n→(P k=true↔A k=false∧MonI n cash d A k)) {N:Nat→Bool} (hN:∀ k,k<n→(N k=true↔A k=false∧¬ MonI n cash d A k)) {x:Nat→Rat} (hx:SolF n (cashQ cash) (totG N n d) (shQ n d) P x) :
  Face n (cashQ cash) (totQ n d) (shQ n d) A x:=by
 refine⟨fun i hi hA=>?_,fun i hi hA hM=>hx.on i hi ((hP i hi).2 ⟨hA,(mon_iff hd i).2 hM⟩),fun i hi hA hM=>?_⟩
 ·have h1:P i=false:=by
   cases e:P i
   ·rfl
   ·have:=((hP i hi).1 e).1;rw [hA] at this;cases this
  have h2:N i=false:=by
   cases e:N i
   ·rfl
   ·have:=((hN i hi).1 e).1;rw [hA] at this;cases this
  rw [hx.no i hi h1,totG_le,h2];rfl
 ·have h1:P i=false:=by
   cases e:P i
   ·rfl
   ·exact absurd ((mon_iff hd i).1 ((hP i hi).1 e).2) hM
  have h2:N i=true:=(hN i hi).2 ⟨hA,fun q=>hM ((mon_iff hd i).1 q)⟩
  rw [hx.no i hi h1,totG_le,h2];rfl
theorem nc_iff (hd:∀ i j,0≤d i j) (hP:∀ k,k<n→(P k=true↔A k=false∧MonI n cash d A k)) (h:NoClosed n (shQ n d) (fun i=>P i=true)):NoClosed n (shQ n d) (fun i=>A i=false∧Mon n (cashQ cash) (shQ n d) A i):=
 fun Z hZ hcl=>h Z (fun k hk=>⟨(hZ k hk).1,(hP k (hZ k hk).1).2 ⟨(hZ k hk).2.1,(mon_iff hd k).2 (hZ k hk).2.2⟩⟩) hcl
theorem face_uniq {x y:Nat→Rat} (hR:Rng n cash d) (hd:∀ i j,0≤d i j) (hF:NoClosed n (shQ n d) (fun i=>A i=false∧Mon n (cashQ cash) (shQ n d) A i)) (hx:Face n (cashQ cash) (totQ n d) (shQ n d) A x) (hy:Face n (cashQ cash) (totQ n d) (shQ n d) A y):∀ i,i<n→x i=y i:=by
 have hm:=mktQ_of hR hd
 have key:∀ {x y:Nat→Rat},Face n (cashQ cash) (totQ n d) (shQ n d) A x→Face n (cashQ cash) (totQ n d) (shQ n d) A y→∀ i,i<n→x i≤y i:=fun {x y} hx hy=>
  face_le hm hF hx ⟨face_nonneg hm hF hy,fun i hi hA=>by rw [hy.on i hi hA];exact Rat.le_refl,fun i hi hA=>by
   by_cases hM:Mon n (cashQ cash) (shQ n d) A i
   ·rw [←hy.part i hi hA hM];exact Rat.le_refl
   ·rw [hy.none i hi hA hM,face_none (mktS_of hR hd) hy hi hM];exact Rat.le_refl⟩
 intro i hi
 have h1:=key hx hy i hi
 have h2:=key hy hx i hi
 grind
theorem ClrQ.congr {c T:Nat→Rat} {S:Nat→Nat→Rat} {x y:Nat→Rat} (h:ClrQ n c T S x) (e:∀ i,i<n→x i=y i):ClrQ n c T S y:=by
 have h2:∀ i,hasP n c S x i=hasP n c S y i:=fun i=>hasP_congr e i
 exact⟨fun i hi=>by rw [←e i hi];exact h.pos i hi,fun i hi=>by rw [←e i hi];exact h.tot i hi,fun i hi=>by rw [←e i hi,←h2];exact h.has i hi,fun i hi=>by rw [←e i hi,←h2];exact h.eq i hi⟩
end
end Go.Proofs.YtgmopcncbpdniaaGreat
