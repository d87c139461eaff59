import Derived.Test.YtgmopcncbpdniaaGreatJSol
import Derived.Test.YtgmopcncbpdniaaGreatJTakes
set_option linter.unusedVariables false
set_option linter.unusedSimpArgs false
namespace Go.Proofs.YtgmopcncbpdniaaGreat
variable {n:Nat} {cash:Nat→Int} {d:Nat→Nat→Int}
def totQ (n:Nat) (d:Nat→Nat→Int) (i:Nat):Rat:=((sumF (d i) n:Int):Rat)
theorem totG_none (n:Nat) (d:Nat→Nat→Int):totG (fun _=>false) n d=totQ n d:=by funext i;simp [totG,totQ]
theorem sumF_cast (f:Nat→Int):∀ n,((sumF f n:Int):Rat)=sumQ (fun i=>(f i:Rat)) n
 | 0=>by simp [sumF,sumQ]
 | n+1=>by simp only [sumF,sumQ];rw [Rat.intCast_add,sumF_cast f n]
theorem sumF_nn {f:Nat→Int} (h:∀ i,0≤f i):∀ n,0≤sumF f n
 | 0=>Int.le_refl _
 | n+1=>by simp only [sumF];have:=sumF_nn h n;have:=h n;omega
def tI (n:Nat) (d:Nat→Nat→Int) (j:Nat):Int:=if sumF (d j) n=0 then 1 else sumF (d j) n
def eI (n:Nat) (d:Nat→Nat→Int) (j i:Nat):Int:=if sumF (d j) n=0 then 0 else d j i
theorem tI_pos (hd:∀ i j,0≤d i j) (j:Nat):0<tI n d j:=by
 unfold tI;split
 ·omega
 ·have:=sumF_nn (hd j) n;omega
theorem tI_ne (hd:∀ i j,0≤d i j) (j:Nat):((tI n d j:Int):Rat)≠0:=fun e=>by
 have h1:=tI_pos (n:=n) hd j
 have h2:((tI n d j:Int):Rat)=((0:Int):Rat):=e
 have:=Rat.intCast_inj.1 h2
 omega
theorem shQ_eq (j i:Nat):shQ n d j i=((eI n d j i:Int):Rat) / ((tI n d j:Int):Rat):=by
 unfold shQ shareQ eI tI
 split
 ·rw [Rat.div_def];simp
 ·rfl
theorem eI_nn (hd:∀ i j,0≤d i j) (j i:Nat):0≤eI n d j i:=by
 unfold eI;split
 ·omega
 ·exact hd j i
theorem shQ_pos (hd:∀ i j,0≤d i j) (j i:Nat):0≤shQ n d j i:=by
 rw [shQ_eq,Rat.div_def]
 exact Rat.mul_nonneg (Rat.intCast_nonneg.2 (eI_nn hd j i)) (Rat.le_of_lt (inv_pos' (Rat.intCast_pos.2 (tI_pos hd j))))
theorem shQ_one (hd:∀ i j,0≤d i j) (j:Nat):sumQ (fun i=>shQ n d j i) n≤1:=by
 rw [sumQ_congr n (g:=fun i=>((tI n d j:Int):Rat)⁻¹*((eI n d j i:Int):Rat)) (fun i _=>by rw [shQ_eq,Rat.div_def,Rat.mul_comm]),sumQ_mul]
 have h1:=tI_ne (n:=n) hd j
 unfold tI eI at *
 split
 ·rename_i h
  simp only [h,if_true] at h1 ⊢
  rw [sumQ_eq_zero n (fun i _=>by simp)]
  rw [Rat.mul_zero]
  decide
 ·rename_i h
  simp only [h,if_false] at h1 ⊢
  rw [←sumF_cast,Rat.inv_mul_cancel _ h1]
  exact Rat.le_refl
theorem mktQ_of (hR:Rng n cash d) (hd:∀ i j,0≤d i j):MktQ n (cashQ cash) (totQ n d) (shQ n d):=
 ⟨⟨shQ_pos hd,fun j _=>shQ_one hd j⟩,fun i hi=>Rat.intCast_nonneg.2 (hR.csh i hi).1,fun i _=>Rat.intCast_nonneg.2 (sumF_nn (hd i) n)⟩
def payI (n:Nat) (cash:Nat→Int) (d:Nat→Nat→Int) (F:Nat→Bool) (r j:Nat):Int:=
 if j<n then (if j=r then tI n d r else 0) - (if F r then eI n d j r else 0) else (if F r then cash r else sumF (d r) n)
theorem payI_sum (hd:∀ i j,0≤d i j) (F:Nat→Bool) (z:Nat→Rat) (r:Nat) (hr:r<n) :
  sumQ (fun j=>(payI n cash d F r j:Rat)*z j) n=((tI n d r:Int):Rat)*z r - (if F r then sumQ (fun j=>((tI n d j:Int):Rat)*z j*shQ n d j r) n else 0):=by
 have e1:sumQ (fun j=>(payI n cash d F r j:Rat)*z j) n=sumQ (fun j=>(if j=r then ((tI n d r:Int):Rat)*z r else 0)) n - sumQ (fun j=>if F r then ((tI n d j:Int):Rat)*z j*shQ n d j r else 0) n:=by
  rw [←sumQ_sub]
  refine sumQ_congr n (fun j hj=>?_)
  unfold payI
  rw [if_pos hj,Rat.intCast_sub]
  have e2:((tI n d j:Int):Rat)*z j*shQ n d j r=((eI n d j r:Int):Rat)*z j:=by
   rw [shQ_eq,Rat.div_def]
   have:=tI_ne (n:=n) hd j
   have h2:=Rat.mul_inv_cancel _ this
   grind
  rw [e2]
  by_cases e:j=r
  ·subst e
   by_cases hF:F j=true
   ·simp [hF];grind
   ·simp [hF];grind
  ·by_cases hF:F r=true
   ·simp [e,hF];grind
   ·simp [e,hF];grind
 rw [e1,sumQ_one _ r n hr (fun i _ hn=>if_neg hn),if_pos rfl]
 congr 1
 by_cases hF:F r=true
 ·simp [hF]
 ·simp only [hF,if_false];exact sumQ_eq_zero n (fun i _=>by simp)
theorem payI_sys (hR:Rng n cash d) (hn:n≤8) (hd:∀ i j,0≤d i j) {F:Nat→Bool} (hF:NoClosed n (shQ n d) (fun i=>F i=true)) {p:Nat→Rat} (hp:SolF n (cashQ cash) (totQ n d) (shQ n d) F p) :
  SysI n n (fun _=>False) (payI n cash d F) 200000 (fun j=>p j / ((tI n d j:Int):Rat)):=by
 have hq:∀ j,((tI n d j:Int):Rat)*(p j / ((tI n d j:Int):Rat))=p j:=fun j=>by
  have h1:=tI_ne (n:=n) hd j
  have h2:=Rat.mul_inv_cancel _ h1
  rw [Rat.div_def];grind
 refine⟨fun r j hr hj=>?_,fun _ _ _ _ h=>h.elim,fun r hr=>?_,fun z _ hz=>?_⟩
 ·have t1:=hR.tot r hr
  have c1:=hR.csh r hr
  have et:tI n d r≤100000∧0<tI n d r:=⟨by unfold tI;split <;> omega,tI_pos hd r⟩
  unfold payI
  by_cases hjn:j<n
  ·rw [if_pos hjn]
   have ee:0≤eI n d j r∧eI n d j r≤1000:=⟨eI_nn hd j r,by unfold eI;have:=(hR.deb j r hjn hr).2;split <;> omega⟩
   split <;> split <;> omega
  ·rw [if_neg hjn]
   split <;> omega
 ·rw [payI_sum hd F _ r hr,hq r]
  have e:sumQ (fun j=>((tI n d j:Int):Rat)*(p j / ((tI n d j:Int):Rat))*shQ n d j r) n=sumQ (fun j=>p j*shQ n d j r) n:=sumQ_congr n (fun j _=>by rw [hq j])
  rw [e]
  unfold payI
  rw [if_neg (Nat.lt_irrefl _)]
  by_cases hFr:F r=true
  ·have h1:=hp.on r hr hFr
   unfold hasP cashQ at h1
   simp only [hFr,if_true]
   grind
  ·have hf:F r=false:=by simpa using hFr
   have h1:=hp.no r hr hf
   simp only [hf,Bool.false_eq_true,if_false]
   rw [h1]
   unfold totQ
   grind
 ·have hu:∀ r,r<n→((tI n d r:Int):Rat)*z r=if F r then sumQ (fun j=>((tI n d j:Int):Rat)*z j*shQ n d j r) n else 0:=fun r hr=>by
   have h1:=hz r hr
   rw [payI_sum hd F z r hr] at h1
   grind
  have hm:=mktQ_of hR hd
  have b1:=below_zero hm.sh hF (fun j=>((tI n d j:Int):Rat)*z j) (fun i hi hn=>by
   have h1:=hu i hi
   rw [if_neg hn] at h1
   rw [h1];exact Rat.le_refl) (fun i hi hf=>by
   have h1:=hu i hi
   rw [if_pos hf] at h1
   rw [h1];exact Rat.le_refl)
  have b2:=below_zero hm.sh hF (fun j=>- (((tI n d j:Int):Rat)*z j)) (fun i hi hn=>by
   have h1:=hu i hi
   rw [if_neg hn] at h1
   rw [h1];simp) (fun i hi hf=>by
   have h1:=hu i hi
   rw [if_pos hf] at h1
   have e3:sumQ (fun j=>- (((tI n d j:Int):Rat)*z j)*shQ n d j i) n = - sumQ (fun j=>((tI n d j:Int):Rat)*z j*shQ n d j i) n:=by
    have:=sumQ_mul (-1) (fun j=>((tI n d j:Int):Rat)*z j*shQ n d j i) n
    rw [sumQ_congr n (g:=fun j=>(-1)*(((tI n d j:Int):Rat)*z j*shQ n d j i)) (fun j _=>by grind),this];grind
   rw [e3,h1];exact Rat.le_refl)
  intro j hj
  have h1:=b1 j hj
  have h2:=b2 j hj
  have h3:=tI_ne (n:=n) hd j
  have h4:((tI n d j:Int):Rat)*z j=0:=by grind
  rcases Rat.mul_eq_zero.1 h4 with h | h
  ·exact absurd h h3
  ·exact h
theorem bdI_mono (B:Nat):∀ c c',c≤c'→bdI B c≤bdI B c':=fun c c' h=>by
 obtain⟨k,rfl⟩:=Nat.exists_eq_add_of_le h
 induction k with
 | zero=>exact Nat.le_refl _
 | succ k ih=>exact Nat.le_trans (ih (by omega)) (bdI_le B (c+k))
theorem bd_num:100000*bdI 200000 8<4294967296 ^ 200:=by decide +kernel
theorem bd_ten:100000*bdI 200000 8<10 ^ 4000:=by decide +kernel
theorem pay_small (hR:Rng n cash d) (hn:n≤8) (hd:∀ i j,0≤d i j) {F:Nat→Bool} (hF:NoClosed n (shQ n d) (fun i=>F i=true)) {p:Nat→Rat} (hp:SolF n (cashQ cash) (totQ n d) (shQ n d) F p) (i:Nat) (hi:i<n) :
  szQ (p i)≤200∧(p i).num.natAbs≤100000*bdI 200000 8∧(p i).den≤100000*bdI 200000 8:=by
 obtain⟨P,Q,h1,h2,h3,h4⟩:=(payI_sys hR hn hd hF hp).bound i hi
 have hb:=bdI_mono 200000 n 8 hn
 have t1:=hR.tot i hi
 have et:(tI n d i).natAbs≤100000:=by have:=tI_pos (n:=n) hd i;unfold tI at *;split <;> split at this <;> omega
 have e:(Q:Rat)*p i=((tI n d i*P:Int):Rat):=by
  have h5:=tI_ne (n:=n) hd i
  have h6:=Rat.mul_inv_cancel _ h5
  rw [Rat.intCast_mul,←h4,Rat.div_def]
  grind
 obtain⟨k1,k2⟩:=lowest_le h1 e
 have m1:(tI n d i*P).natAbs≤100000*bdI 200000 8:=by
  rw [Int.natAbs_mul]
  exact Nat.mul_le_mul et (Nat.le_trans h2 hb)
 have m2:Q.natAbs≤100000*bdI 200000 8:=Nat.le_trans (Nat.le_trans h3 hb) (Nat.le_mul_of_pos_left _ (by decide))
 have a1:=Nat.le_trans k1 m1
 have a2:=Nat.le_trans k2 m2
 exact⟨szQ_le ((nl_le _ _).2 (Nat.lt_of_le_of_lt a1 bd_num)) ((nl_le _ _).2 (Nat.lt_of_le_of_lt a2 bd_num)),a1,a2⟩
end Go.Proofs.YtgmopcncbpdniaaGreat
namespace Go.Proofs.YtgmopcncbpdniaaGreat
variable {n:Nat} {cash:Nat→Int} {d:Nat→Nat→Int}
theorem szQ_sum {a:Nat} {f:Nat→Rat} : ∀ n,(∀ j,j<n→szQ (f j)≤a)→szQ (sumQ f n)≤2+n*(a+1)
 | 0,_=>by simp only [sumQ];have:=szQ_zero;omega
 | n+1,h=>by
  simp only [sumQ]
  have h1:=szQ_sum n (fun j hj=>h j (by omega))
  have h2:=h n (by omega)
  have h3:=szQ_add (sumQ f n) (f n)
  rw [Nat.add_mul,Nat.one_mul]
  omega
theorem szQ_small (z:Int) (h:z.natAbs≤1000000):szQ (z:Rat)≤2:=szQ_int z (Nat.lt_of_le_of_lt h (by decide))
theorem szQ_sh (hR:Rng n cash d) (hd:∀ i j,0≤d i j) (j i:Nat) (hj:j<n) (hi:i<n):szQ (shQ n d j i)≤4:=by
 rw [shQ_eq]
 have h1:=szQ_div ((eI n d j i:Int):Rat) ((tI n d j:Int):Rat) (tI_ne hd j)
 have t1:=hR.tot j hj
 have e1:=hR.deb j i hj hi
 have h2:=szQ_small (eI n d j i) (by unfold eI;split <;> omega)
 have h3:=szQ_small (tI n d j) (by unfold tI;split <;> omega)
 omega
theorem szQ_tot (hR:Rng n cash d) (i:Nat) (hi:i<n):szQ (totQ n d i)≤2:=szQ_small _ (by have:=hR.tot i hi;omega)
theorem szQ_A (hR:Rng n cash d) (hn:n≤8) (hd:∀ i j,0≤d i j) (F:Nat→Bool) (i j:Nat) (hi:i<rankF F n) (hj:j<rankF F n+1):szQ (solA n (cashQ cash) (totQ n d) (shQ n d) F i j)≤64:=by
 have f1:=(frL_spec F n i hi).2.1
 unfold solA
 split
 ·rename_i h
  have f2:=(frL_spec F n j h).2.1
  have h1:=szQ_sub (if j=i then (1:Rat) else 0) (shQ n d ((frL F n).getD j 0) ((frL F n).getD i 0))
  have h2:=szQ_sh hR hd _ _ f2 f1
  have h3:szQ (if j=i then (1:Rat) else 0)≤2:=by split;exact szQ_one;exact szQ_zero
  omega
 ·show szQ (cashQ cash ((frL F n).getD i 0)+sumQ (fun l=>(if F l=true then 0 else totQ n d l)*shQ n d l ((frL F n).getD i 0)) n)≤64
  have h1:=szQ_sum (a:=6) (f:=fun l=>(if F l=true then 0 else totQ n d l)*shQ n d l ((frL F n).getD i 0)) n (fun l hl=>by
   have h1:=szQ_mul (if F l=true then 0 else totQ n d l) (shQ n d l ((frL F n).getD i 0))
   have h2:=szQ_sh hR hd l _ hl f1
   have h3:szQ (if F l=true then 0 else totQ n d l)≤2:=by split;exact szQ_zero;exact szQ_tot hR l hl
   omega)
  have h2:=szQ_add (cashQ cash ((frL F n).getD i 0)) (sumQ (fun l=>(if F l=true then 0 else totQ n d l)*shQ n d l ((frL F n).getD i 0)) n)
  have h3:szQ (cashQ cash ((frL F n).getD i 0))≤2:=szQ_small _ (by have:=hR.csh _ f1;omega)
  have h4:n*(6+1)≤56:=by omega
  omega
structure Rdy (n:Nat) (cash:Nat→Int) (d:Nat→Nat→Int) (F:Nat→Bool) (x p:Nat→Rat):Prop where
 piv:∀ c,c<rankF F n→0<triQ (solA n (cashQ cash) (totG (fun _=>false) n d) (shQ n d) F) c c c
 siz:∀ c,c≤rankF F n→∀ i j,i<rankF F n→j<rankF F n+1→szQ (triQ (solA n (cashQ cash) (totG (fun _=>false) n d) (shQ n d) F) c i j)≤25000000
 res:∀ i,i<rankF F n→resid (rankF F n) i (triQ (solA n (cashQ cash) (totG (fun _=>false) n d) (shQ n d) F) (rankF F n)) x i=0
 small:∀ i,i<rankF F n→szQ (x i)≤200
 pay:∀ i,p i=if F i then x (rankF F i) else totG (fun _=>false) n d i
 sol:SolF n (cashQ cash) (totQ n d) (shQ n d) F p
theorem rdy_of (hR:Rng n cash d) (hn:n≤8) (hd:∀ i j,0≤d i j) {F:Nat→Bool} (hF:NoClosed n (shQ n d) (fun i=>F i=true)):∃ x p,Rdy n cash d F x p:=by
 have hm:=mktQ_of hR hd
 have hmm:=solA_mm hm F hF
 have hpv:∀ c,c<rankF F n→0<triQ (solA n (cashQ cash) (totQ n d) (shQ n d) F) c c c:=fun c hc=>(hmm.tri c (Nat.le_of_lt hc)).pivot hc
 have hne:∀ c,c<rankF F n→triQ (solA n (cashQ cash) (totQ n d) (shQ n d) F) c c c≠0:=fun c hc e=>by have:=hpv c hc;rw [e] at this;exact absurd this Rat.lt_irrefl
 have hkn:=rankF_le F n
 have hsz:∀ c,c≤rankF F n→∀ i j,i<rankF F n→j<rankF F n+1→szQ (triQ (solA n (cashQ cash) (totQ n d) (shQ n d) F) c i j)≤25000000:=fun c hc i j hi hj=>by
  have h1:=szQ_tri (K:=64) (n:=rankF F n) (m:=rankF F n+1) (by omega) (by omega) (fun i j hi hj=>szQ_A hR hn hd F i j hi hj) hne c hc i j hi hj
  have h2:5 ^ c≤5 ^ 8:=Nat.pow_le_pow_right (by omega) (by omega)
  have h3:5 ^ c*64≤5 ^ 8*64:=Nat.mul_le_mul_right _ h2
  have h4:(5:Nat) ^ 8*64=25000000:=by decide
  omega
 obtain⟨x,hx⟩:=tri_solution (rankF F n) (triQ (solA n (cashQ cash) (totQ n d) (shQ n d) F) (rankF F n)) (fun i hi=>by
  have h1:=triQ_row (solA n (cashQ cash) (totQ n d) (shQ n d) F) i i (rankF F n - i) i (Nat.le_refl _)
  rw [show i+(rankF F n - i)=rankF F n by omega] at h1
  rw [h1];exact hne i hi)
 have hs:=sol_of hm F hF x (fun i=>if F i then x (rankF F i) else totQ n d i) hx (fun i _=>rfl)
 refine⟨x,fun i=>if F i then x (rankF F i) else totQ n d i,?_,?_,?_,fun i hi=>?_,fun i=>by rw [totG_none],hs⟩
 ·rw [totG_none];exact hpv
 ·rw [totG_none];exact hsz
 ·rw [totG_none];exact hx
 ·have h1:=frL_spec F n i hi
  have h2:=(pay_small hR hn hd hF hs ((frL F n).getD i 0) h1.2.1).1
  simp only [h1.1,h1.2.2,if_true] at h2
  exact h2
end Go.Proofs.YtgmopcncbpdniaaGreat
namespace Go.Proofs.YtgmopcncbpdniaaGreat
variable {n:Nat} {cash:Nat→Int} {d:Nat→Nat→Int} {ps:(Nat→Bool)→Nat→Rat}
def PsOK (n:Nat) (cash:Nat→Int) (d:Nat→Nat→Int) (ps:(Nat→Bool)→Nat→Rat):Prop:=∀ F:Nat→Bool,NoClosed n (shQ n d) (fun i=>F i=true)→∃ x,Rdy n cash d F x (ps F)
theorem ps_ex (hR:Rng n cash d) (hn:n≤8) (hd:∀ i j,0≤d i j):∃ ps,PsOK n cash d ps:=by
 have h:∀ F:Nat→Bool,∃ p:Nat→Rat,NoClosed n (shQ n d) (fun i=>F i=true)→∃ x,Rdy n cash d F x p:=fun F=>by
  by_cases hF:NoClosed n (shQ n d) (fun i=>F i=true)
  ·obtain⟨x,p,h⟩:=rdy_of hR hn hd hF
   exact⟨p,fun _=>⟨x,h⟩⟩
  ·exact⟨fun _=>0,fun h=>absurd h hF⟩
 exact⟨fun F=>Classical.choose (h F),fun F=>Classical.choose_spec (h F)⟩
def newF (n:Nat) (cash:Nat→Int) (d:Nat→Nat→Int) (ps:(Nat→Bool)→Nat→Rat) (F:Nat→Bool) (i:Nat):Bool:=!F i && decide (hasP n (cashQ cash) (shQ n d) (ps F) i<totQ n d i)
def FS (n:Nat) (cash:Nat→Int) (d:Nat→Nat→Int) (ps:(Nat→Bool)→Nat→Rat):Nat→Nat→Bool
 | 0=>fun _=>false
 | q+1=>fun i=>FS n cash d ps q i || newF n cash d ps (FS n cash d ps q) i
def NW (n:Nat) (cash:Nat→Int) (d:Nat→Nat→Int) (ps:(Nat→Bool)→Nat→Rat) (q:Nat):Nat→Bool:=newF n cash d ps (FS n cash d ps q)
def PS (n:Nat) (cash:Nat→Int) (d:Nat→Nat→Int) (ps:(Nat→Bool)→Nat→Rat) (q:Nat):Nat→Rat:=ps (FS n cash d ps q)
theorem rnd_all (hps:PsOK n cash d ps) (hR:Rng n cash d) (hd:∀ i j,0≤d i j):∀ q,RndJ n (cashQ cash) (totQ n d) (shQ n d) (FS n cash d ps q)
 | 0=>rndJ_zero _ _ _ _ _ (fun _=>rfl)
 | q+1=>by
  have ih:=rnd_all hps hR hd q
  obtain⟨x,hx⟩:=hps _ ih.nc
  refine rndJ_next (mktQ_of hR hd) ih hx.sol (fun i hi=>?_)
  simp only [FS,newF]
  by_cases h:FS n cash d ps q i=true
  ·simp [h]
  ·simp [h]
theorem ps_rdy (hps:PsOK n cash d ps) (hR:Rng n cash d) (hd:∀ i j,0≤d i j) (q:Nat):∃ x,Rdy n cash d (FS n cash d ps q) x (PS n cash d ps q):=hps _ (rnd_all hps hR hd q).nc
theorem nw_not {q i:Nat} (h:NW n cash d ps q i=true):FS n cash d ps q i=false:=by
 unfold NW newF at h
 cases hF:FS n cash d ps q i
 ·rfl
 ·rw [hF] at h;simp at h
theorem nw_iff (q i:Nat):NW n cash d ps q i=(!FS n cash d ps q i && decide (hasP n (cashQ cash) (shQ n d) (PS n cash d ps q) i<totQ n d i)):=rfl
theorem fs_succ (q i:Nat):FS n cash d ps (q+1) i=(FS n cash d ps q i || NW n cash d ps q i):=rfl
theorem rankF_or {F G:Nat→Bool} (h:∀ i,G i=true→F i=false):∀ n,rankF (fun i=>F i || G i) n=rankF F n+rankF G n
 | 0=>rfl
 | n+1=>by
  rw [rankF_succ,rankF_succ,rankF_succ,rankF_or h n]
  cases hg:G n
  ·simp;omega
  ·rw [h n hg];simp;omega
theorem fs_rank (q:Nat):rankF (FS n cash d ps (q+1)) n=rankF (FS n cash d ps q) n+rankF (NW n cash d ps q) n:=rankF_or (fun i h=>nw_not h) n
theorem cmpQ_lt (a b:Rat):decide (cmpQ a b<0)=decide (a<b):=by
 have h:(cmpQ a b<0)↔a<b:=by
  have h1:cmpQ a b<0↔a.num*(b.den:Int) - b.num*(a.den:Int)<0:=by
   unfold cmpQ sgnZ
   split
   ·omega
   ·split <;> omega
  rw [h1,Rat.lt_iff]
  omega
 exact decide_eq_decide.2 h
end Go.Proofs.YtgmopcncbpdniaaGreat
namespace Go.Proofs.YtgmopcncbpdniaaGreat
open Go.RowKit
attribute [local go_sem ↓] Go.wp_at_zero Go.wp_at_succ
def mem (s i:Nat):List Nat:=(List.range i).filter (fun t=>s.testBit t)
def intC (l:List Nat):List Value:=l.map (fun t=>.int .i64 (t:Nat))
theorem i64_and1 (n:Int):bits .and .i64 n 1=n % 2:=by
 have h1:(BitVec.ofInt 64 1).toNat=2 ^ 1 - 1:=by decide
 have key:(BitVec.ofInt 64 n &&& BitVec.ofInt 64 1).toNat=(n % ((2 ^ 64:Nat):Int)).toNat % 2 ^ 1:=by
  rw [BitVec.toNat_and,BitVec.toNat_ofInt,h1,Nat.and_two_pow_sub_one_eq_mod]
 show IntKind.i64.wrap ((BitVec.ofInt 64 n &&& BitVec.ofInt 64 1).toNat:Nat)=n % 2
 rw [key,IntKind.wrap_i64]
 omega
theorem mem_succ (s i:Nat):mem s (i+1)=mem s i ++ if s.testBit i then [i] else []:=by
 unfold mem
 rw [List.range_succ,List.filter_append]
 congr 1
 by_cases h:s.testBit i <;> simp [h]
theorem mem_done (s i:Nat) (h:s<2 ^ i):∀ k,mem s (i+k)=mem s i
 | 0=>rfl
 | k+1=>by
  rw [←Nat.add_assoc,mem_succ,mem_done s i h k]
  have h2:s<2 ^ (i+k):=Nat.lt_of_lt_of_le h (Nat.pow_le_pow_right (by omega) (by omega))
  rw [Nat.testBit_lt_two_pow h2]
  simp
theorem mem_len (s:Nat):∀ i,(mem s i).length≤i
 | 0=>by simp [mem]
 | i+1=>by
  rw [mem_succ,List.length_append]
  have:=mem_len s i
  split <;> simp <;> omega
theorem intC_app (l:List Nat) (i:Nat):intC l ++ [.int .i64 (i:Nat)]=intC (l ++ [i]):=by simp [intC]
set_option maxHeartbeats 2000000 in
set_option maxRecDepth 100000 in
theorem members_any (s:Nat) (w:World) (hs:s<1024) :
  Calls Tryz.prog 77 #[.int .i64 (s:Nat)] w fun e w'=>∃ va vk,e = .returned (.slice va (mem s 10).length vk)∧w'.ownsRow w.heap.size 3 1 (.slice va (mem s 10).length vk) (mem s 10).length (intC (mem s 10))∧Below w.heap.size w w':=by
 obtain⟨i0,hinf,hz0,hz1,hz2⟩:=info_parts infoI
 have KW0:=Lib.hid (Below.refl w.heap.size w)
 go_enter Tryz.func77,Tryz.ntmps77
 go_wp2
 go_loopw [3,4] (fun v3 v4 wr=>∃ i:Nat,i≤10∧v4 = .int .i64 (i:Nat)∧∃ va vk,v3 = .slice va (mem s i).length vk∧Hid (wr.ownsRow w.heap.size 3 1 (.slice va (mem s i).length vk) (mem s i).length (intC (mem s i)))∧Hid (Below w.heap.size w wr)) (fun _ v4 _=>10 - (intOf v4).toNat)
 case atStart=>exact⟨0,by omega,rfl,none,0,rfl,Lib.hid (World.ownsRow_nil _ _ _ _),KW0⟩
 case round=>
  clear KW0
  obtain⟨i,hi,rfl,va,vk,rfl,OW,KW⟩:=hrel
  have hdiv:(s:Int) / 2 ^ i=((s / 2 ^ i:Nat):Int):=by simp
  by_cases hq:s / 2 ^ i=0
  ·have d1:decide ((0:Int)<(s:Int) / 2 ^ i)=false:=by rw [hdiv,hq];rfl
   have hlt:s<2 ^ i:=(Nat.div_eq_zero_iff_lt (Nat.two_pow_pos i)).1 hq
   have hm:=mem_done s i hlt (10 - i)
   rw [show i+(10 - i)=10 by omega] at hm
   have HM:=Lib.hid hm
   clear hm hdiv
   go_wp2
   go_ret
   rw [HM.out]
   exact⟨va,vk,rfl,OW.out,KW.out⟩
  ·have hi10:i<10:=by
    rcases Nat.lt_or_ge i 10 with h | h
    ·exact h
    ·exact absurd (Nat.div_eq_of_lt (Nat.lt_of_lt_of_le hs (Nat.pow_le_pow_right (n:=2) (by omega) h))) hq
   have d1:decide ((0:Int)<(s:Int) / 2 ^ i)=true:=decide_eq_true (by rw [hdiv];exact Int.natCast_pos.2 (Nat.pos_of_ne_zero hq))
   have hbit:(bits .and .i64 ((s:Int) / 2 ^ i) 1 == 1)=s.testBit i:=by
    rw [i64_and1,hdiv,Nat.testBit_eq_decide_div_mod_eq]
    by_cases h:s / 2 ^ i % 2=1
    ·rw [decide_eq_true h]
     have:(((s / 2 ^ i:Nat):Int) % 2)=1:=by omega
     rw [this];rfl
    ·rw [decide_eq_false h]
     have:(((s / 2 ^ i:Nat):Int) % 2)=0:=by omega
     rw [this];rfl
   have HSZ:=Lib.hid KW.out.size
   have HBK:=Lib.hid OW.out.lt
   have HLN:=Lib.hid (mem_len s i)
   have hms:=mem_succ s i
   clear hdiv hq
   by_cases hb:s.testBit i=true
   ·rw [hb] at hbit
    rw [hb,if_pos rfl] at hms
    have HMS:=Lib.hid hms
    clear hms hb
    go_wp2_with (at_builtin;refine wpList_append_own _ rfl (.tmp 16) (.tmp 18) 24 rfl w.heap.size 3 i0 (.int .i64 0) 1 8 Tryz.underlying24 hinf hz0 hz1 hz2 rfl (by decide) (.slice va (mem s i).length vk) (mem s i).length (intC (mem s i)) rfl (OW.out.alloc _) ⟨wr.heap.size,0,none⟩ 1 1 [.int .i64 (i:Nat)] rfl rfl (new1 wr (.int .i64 (i:Nat)) 3) (one1 _ rfl) (by have:=HLN.out;unfold maxLen;omega) (by have:=HLN.out;omega) (by simp;have:=HSZ.out;omega) ?_;intro v' w5 hown hgrow _;have KW:=Lib.hid ((KW.out.alloc KW.out.size _).grown hgrow (by have:=HSZ.out;simp;omega) (fun kk e=>(HBK.out kk e).1));rw [intC_app,←HMS.out] at hown;obtain⟨va',vk',rfl⟩:=own_shape hown;have OW:=Lib.hid hown;clear hown hgrow)
    go_roundw
    case rel=>
     have hl:(mem s (i+1)).length=(mem s i).length+1:=by rw [HMS.out];simp
     exact⟨i+1,by omega,by go_num,va',vk',by rw [hl],by rw [hl];exact OW,KW⟩
    case measure=>simp [intOf];omega
   ·have hb2:s.testBit i=false:=by simpa using hb
    rw [hb2] at hbit hms
    have hms2:mem s (i+1)=mem s i:=by simpa using hms
    have HMS:=Lib.hid hms2
    clear hms hms2 hb hb2
    go_wp2
    go_roundw
    case rel=>exact⟨i+1,by omega,by go_num,va,vk,by rw [HMS.out],by rw [HMS.out];exact OW,KW⟩
    case measure=>simp [intOf];omega
end Go.Proofs.YtgmopcncbpdniaaGreat
namespace Go.Proofs.YtgmopcncbpdniaaGreat
open Go.RowKit
attribute [local go_sem ↓] Go.wp_at_zero Go.wp_at_succ
def Balances (n:Nat) (f:Nat→Int):Prop:=1≤n∧n≤10∧(∀ i,i<n→-10000≤f i∧f i≤10000)∧sumF f n=0
set_option maxHeartbeats 2000000 in
set_option maxRecDepth 100000 in
theorem balanced_any (v:Value) (n:Nat) (f:Nat→Int) (r:Bool) (hr:r=true↔Balances n f) (w:World) (hv:Ints w v n f) (hn:n≤1048576) :
  Calls Tryz.prog 75 #[v] w fun e w'=>e = .returned (.bool r)∧w=w':=by
 obtain⟨a,b,o,c,rfl,hs⟩:=hv
 have HR:=Lib.hid hr
 have HS:=Lib.hid hs
 clear hr hs
 by_cases h1:n<1
 ·obtain rfl:r=false:=bool_false HR.out (fun q=>by have:=q.1;omega)
  have d1:decide ((n:Int)<1)=true:=by simp;omega
  clear h1
  go_enter Tryz.func75,Tryz.ntmps75
  go_wp2
  go_ret
  exact⟨rfl,rfl⟩
 ·have d1:decide ((n:Int)<1)=false:=by simp;omega
  by_cases h2:10<n
  ·obtain rfl:r=false:=bool_false HR.out (fun q=>by have:=q.2.1;omega)
   have d2:decide ((10:Int)<(n:Int))=true:=by simp;omega
   clear h1 h2
   go_enter Tryz.func75,Tryz.ntmps75
   go_wp2
   go_ret
   exact⟨rfl,rfl⟩
  ·have d2:decide ((10:Int)<(n:Int))=false:=by simp;omega
   have n10:n≤10:=by omega
   have n1:1≤n:=by omega
   clear h1 h2
   go_enter Tryz.func75,Tryz.ntmps75
   go_wp2
   go_loopw [3,16] (fun v3 v16 wr=>∃ k:Nat,k≤n∧v16 = .int .i64 (k:Nat)∧v3 = .int .i64 (sumF f k)∧Hid (∀ i,i<k→-10000≤f i∧f i≤10000)∧w=wr) (fun _ v16 _=>n - (intOf v16).toNat)
   case atStart=>exact⟨0,by omega,rfl,rfl,Lib.hid (fun i hi=>by omega),rfl⟩
   case round=>
    obtain⟨k,hk,rfl,rfl,HX,rfl⟩:=hrel
    by_cases h:k<n
    ·have hix:=fun W=>ixI HS.out k c h W
     have hc:=HS.out.cell k h
     simp only [ic] at hc
     by_cases h3:f k < -10000
     ·obtain rfl:r=false:=bool_false HR.out (fun q=>by have:=q.2.2.1 k h;omega)
      have d3:decide (f k < -10000)=true:=by simpa using h3
      clear h3
      go_wp2
      go_ret
      exact⟨rfl,rfl⟩
     ·have d3:decide (f k < -10000)=false:=by simpa using h3
      by_cases h4:10000<f k
      ·obtain rfl:r=false:=bool_false HR.out (fun q=>by have:=q.2.2.1 k h;omega)
       have d4:decide ((10000:Int)<f k)=true:=by simpa using h4
       clear h3 h4
       go_wp2
       go_ret
       exact⟨rfl,rfl⟩
      ·have d4:decide ((10000:Int)<f k)=false:=by simpa using h4
       have b2:=sumF_bound f k 10000 (fun i hi=>by have:=HX.out i hi;omega)
       have hwr:IntKind.i64.wrap (sumF f k+f k)=sumF f k+f k:=by rw [IntKind.wrap_i64];omega
       have HX2:Hid (∀ i,i<k+1→-10000≤f i∧f i≤10000):=Lib.hid (fun i hi=>by
        by_cases e:i=k
        ·subst e;omega
        ·exact HX.out i (by omega))
       clear h3 h4 b2
       go_wp2
       go_roundw
       case rel=>exact⟨k+1,by omega,by go_num,rfl,HX2,by first | rfl | trivial⟩
       case measure=>simp [intOf];omega
    ·obtain rfl:k=n:=by omega
     by_cases h5:sumF f k=0
     ·obtain rfl:r=true:=HR.out.2 ⟨n1,n10,HX.out,h5⟩
      have d5:(sumF f k == 0)=true:=by simpa using h5
      clear h5
      go_wp2
      go_ret
      exact⟨rfl,rfl⟩
     ·obtain rfl:r=false:=bool_false HR.out (fun q=>h5 q.2.2.2)
      have d5:(sumF f k == 0)=false:=by simpa using h5
      clear h5
      go_wp2
      go_ret
      exact⟨rfl,rfl⟩
end Go.Proofs.YtgmopcncbpdniaaGreat
