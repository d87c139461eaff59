import Derived.Test.YtgmopcncbpdniaaGreatKShelf
import Derived.Test.YtgmopcncbpdniaaGreatKNum8
import Derived.Test.YtgmopcncbpdniaaGreatKShelf
import Derived.Test.YtgmopcncbpdniaaGreatKNum7
import Derived.Lib.ItoaNum
import Derived.Test.YtgmopcncbpdniaaGreatKGen
import Derived.Laws.AppendOwnNone
import Derived.Test.YtgmopcncbpdniaaGreatKBase
set_option maxHeartbeats 2000000
set_option linter.unusedVariables false
set_option linter.unusedSimpArgs false
namespace Go.Proofs.YtgmopcncbpdniaaGreat
open Go.RowKit
theorem digit_any (g m j n cc : Nat) (f : Nat -> Nat) (a2 : Option Addr) (b2 o2 c2 y : Nat) (w : World) (i2 : IsSl w a2 b2 o2 c2 n (lc y)) (hny : nl y = n) (hn2 : 2 <= n) (hne : b2 ≠ g)
  (hrow:w.rowIs g 145 m (fun t=>.int .u32 (f t:Nat))) (hf:∀ t,t<m->f t<4294967296) (hj:j+n+1<=m) (hcc:n+1<=cc) (bn:n<=1099511627776)
  (htop:2147483648<=dig y (n - 1)) (hU:valF (win f j) (n+1)<y*4294967296) :
  Calls Tryz.prog 148 #[.slice (some ⟨g,j,none⟩) (n+1) cc,.slice a2 n c2] w fun e w'=>∃ f':Nat->Nat,
   e = .returned (.int .u32 (valF (win f j) (n+1) / y:Nat))/\w'.rowIs g 145 m (fun t=>.int .u32 (f' t:Nat))/\(∀ t,t<j\/j+n<t->f' t=f t)/\
   (∀ t,t<m->f' t<4294967296)/\valF (win f' j) (n+1)=valF (win f j) (n+1) % y/\w.grownBy w' (some g):=by
 obtain⟨k,hk⟩:∃ k,n=k+2:=⟨n - 2,by omega⟩;have hkf:((win f j (k+2)*4294967296+win f j (k+1))*4294967296+win f j k)*4294967296 ^ k<=valF (win f j) (k+3)/\_:=knuth_facts (win f j) k y (fun i hi=>hf _ (by omega)) (by omega) (by rw [hk] at hU;exact hU)
 have hy0:0<y:=by
  rcases Nat.eq_zero_or_pos y with q | q
  ·rw [q] at hny;simp [nl] at hny;omega
  ·exact q
 have hd1:=i2.cell (n - 1) (by omega);have hd2:=i2.cell (n - 2) (by omega);simp only [lc] at hd1 hd2;have e1:n - 1=k+1:=by omega
 have e2:n - 2=k:=by omega
 refine digit_core g m j n cc f a2 b2 o2 c2 y w i2 hny hn2 hne hrow hf hj hcc bn _ (f (j+n)*4294967296+f (j+(n - 1))) (f (j+n)) (f (j+(n - 1))) (f (j+(n - 2))) (dig y (n - 1)) (dig y (n - 2)) rfl
  (or_join _ _ (hf _ (by omega)) (hf _ (by omega))) ?_ (hf _ (by omega)) (hf _ (by omega)) (hf _ (by omega)) (dig_lt _ _) (dig_lt _ _) htop ?_ (hrow.cell (by omega)) (hrow.cell (by omega)) (hrow.cell (by omega)) hd1 hd2
 ·rw [e1,e2];have en:n=k+2:=hk;subst en;exact⟨hkf.1,hkf.2.1,hkf.2.2.1,hkf.2.2.2.1,hkf.2.2.2.2.1,hU,hy0⟩
 ·rw [e1,e2];have en:n=k+2:=hk;subst en;exact hkf.2.2.2.2.2
end Go.Proofs.YtgmopcncbpdniaaGreat
namespace Go.Proofs.YtgmopcncbpdniaaGreat
open Go
theorem shift_facts (y n : Nat) (hn : nl y = n) (h1 : 1 <= n) :
  ∃ s:Nat,s<32/\(32 - (Lib.bitLen (dig y (n - 1)):Int))=(s:Int)/\nl (y*2 ^ s)=n/\2147483648<=dig (y*2 ^ s) (n - 1):=by
 obtain⟨k,rfl⟩:∃ k,n=k+1:=⟨n - 1,by omega⟩;simp only [Nat.add_sub_cancel];have hlo:4294967296 ^ k<=y:=by rw [<-lt_nl,hn];omega
 have hhi:y<4294967296 ^ (k+1):=by have:=lt_pow_nl y;rwa [hn] at this
 have hpk:=Bpow_pos k
 have htop:dig y k=y / 4294967296 ^ k:=by
  unfold dig;refine Nat.mod_eq_of_lt ?_;rw [Nat.div_lt_iff_lt_mul hpk,Nat.mul_comm,<-Nat.pow_succ];exact hhi
 have ht0:dig y k≠0:=by
  rw [htop];have:=Nat.div_pos hlo hpk;omega
 have hb:=Lib.bitLenAux_bounds 64 (dig y k) (jm (dig_lt y k) (by omega)) ht0;have hb32:=Lib.bitLen_le (dig y k) 32 (by omega) (dig_lt y k);have eL:Lib.bitLenAux 64 (dig y k)=Lib.bitLen (dig y k):=rfl;rw [eL] at hb;generalize Lib.bitLen (dig y k)=L at *
 obtain⟨hL1,hL2,hL3⟩:=hb;refine⟨32 - L,by omega,by omega,?_⟩;have hy:=Nat.div_add_mod y (4294967296 ^ k);rw [<-htop] at hy;have hm:=Nat.mod_lt y hpk;have hp:(4294967296:Nat)=2 ^ L*2 ^ (32 - L):=by rw [<-Nat.pow_add,show L+(32 - L)=32 from by omega]
 have hp2:(2147483648:Nat)=2 ^ (L - 1)*2 ^ (32 - L):=by rw [<-Nat.pow_add,show L - 1+(32 - L)=31 from by omega]
 have hup:y*2 ^ (32 - L)<4294967296 ^ (k+1):=by
  have h2:y<(dig y k+1)*4294967296 ^ k:=by rw [Nat.add_mul,Nat.one_mul,Nat.mul_comm];omega
  have h3:(dig y k+1)*4294967296 ^ k<=2 ^ L*4294967296 ^ k:=Nat.mul_le_mul_right _ hL3;have h4:=Nat.mul_lt_mul_of_pos_right (jm h2 h3) (Nat.two_pow_pos (32 - L));have h5:2 ^ L*4294967296 ^ k*2 ^ (32 - L)=(2 ^ L*2 ^ (32 - L))*4294967296 ^ k:=by ac_rfl
  rw [h5,<-hp] at h4;rw [Nat.pow_succ,Nat.mul_comm (4294967296 ^ k)];exact h4
 have hlow:2147483648*4294967296 ^ k<=y*2 ^ (32 - L):=by
  have h2:dig y k*4294967296 ^ k<=y:=by rw [Nat.mul_comm];omega
  have h3:=Nat.mul_le_mul_right (2 ^ (32 - L)) (Nat.le_trans (Nat.mul_le_mul_right _ hL2) h2);have h5:2 ^ (L - 1)*4294967296 ^ k*2 ^ (32 - L)=(2 ^ (L - 1)*2 ^ (32 - L))*4294967296 ^ k:=by ac_rfl
  rw [h5,<-hp2] at h3;exact h3
 constructor
 ·have a1:nl (y*2 ^ (32 - L))<=k+1:=(nl_le _ _).2 hup;have a2:k<nl (y*2 ^ (32 - L)):=(lt_nl _ _).2 (Nat.le_trans (Nat.le_mul_of_pos_left _ (by omega)) hlow);omega
 ·have : dig (y * 2 ^ (32 - L)) k = y * 2 ^ (32 - L) / 4294967296 ^ k := by
   unfold dig;refine Nat.mod_eq_of_lt ?_;rw [Nat.div_lt_iff_lt_mul hpk,Nat.mul_comm 4294967296,<-Nat.pow_succ];exact hup
  rw [this,Nat.le_div_iff_mul_le hpk];exact hlow
theorem win_lt (f:Nat->Nat) (j n X Y:Nat) (h:valF f (j+(n+1))=X % (Y*4294967296 ^ (j+1))) (hY:0<Y):valF (fun i=>f (j+i)) (n+1)<Y*4294967296:=by
 have hs:=valF_split f j (n+1);have hlt:=Nat.mod_lt X (Nat.mul_pos hY (Bpow_pos (j+1)));rw [<-h,hs] at hlt
 have h2:valF (fun i=>f (j+i)) (n+1)*4294967296 ^ j<(Y*4294967296)*4294967296 ^ j:=by
  have:Y*4294967296 ^ (j+1)=(Y*4294967296)*4294967296 ^ j:=by rw [Nat.pow_succ];ac_rfl
  omega
 exact Nat.lt_of_mul_lt_mul_right h2
theorem small_sum (v P r Y:Nat) (h1:v<P) (h2:r<Y):v+r*P<Y*P:=by
 have h3:(r+1)*P<=Y*P:=Nat.mul_le_mul_right _ h2;rw [Nat.add_mul,Nat.one_mul] at h3;omega
theorem quo_step (f f' : Nat -> Nat) (j n X Y : Nat) (hf : ∀ i, i < j -> f i < 4294967296) (hf' : ∀ i, i <= n -> f' (j + i) < 4294967296) (hY : 0 < Y) (hYn : Y <= 4294967296 ^ n)
  (h:valF f (j+(n+1))=X % (Y*4294967296 ^ (j+1))) (hsame:∀ t,t<j->f' t=f t)
  (hw:valF (fun i=>f' (j+i)) (n+1)=valF (fun i=>f (j+i)) (n+1) % Y) :
  valF f' (j+n)=X % (Y*4294967296 ^ j)/\valF (fun i=>f (j+i)) (n+1) / Y=dig (X / Y) j:=by
 have hs:=valF_split f j (n+1);have hs':=valF_split f' j n;have hl:=valF_lt f j hf;have hc:valF f' j=valF f j:=valF_congr hsame;generalize hU:valF (fun i=>f (j+i)) (n+1)=U at *
 have hmod:=Nat.mod_lt U hY;have hbj:=Bpow_pos j
 have htop:valF (fun i=>f' (j+i)) n=U % Y:=by
  simp only [valF] at hw
  have:f' (j+n)=0:=by
   rcases Nat.eq_zero_or_pos (f' (j+n)) with e | e
   ·exact e
   ·have:=Nat.mul_le_mul_right (4294967296 ^ n) e;omega
  rw [this] at hw;omega
 rw [hs] at h;constructor
 ·rw [hs',hc,htop]
  have e1:X % (Y*4294967296 ^ j)=(X % (Y*4294967296 ^ (j+1))) % (Y*4294967296 ^ j):=by
   rw [Nat.pow_succ,<-Nat.mul_assoc,Nat.mod_mul_right_mod]
  rw [e1,<-h];have hd:=Nat.div_add_mod U Y
  have e2:valF f j+U*4294967296 ^ j=(valF f j+U % Y*4294967296 ^ j)+Y*4294967296 ^ j*(U / Y):=by
   have:U*4294967296 ^ j=(Y*(U / Y)+U % Y)*4294967296 ^ j:=by rw [hd]
   rw [this,Nat.add_mul];have:Y*(U / Y)*4294967296 ^ j=Y*4294967296 ^ j*(U / Y):=by ac_rfl
   omega
  rw [e2,Nat.add_mul_mod_self_left];exact (Nat.mod_eq_of_lt (small_sum _ _ _ _ hl hmod)).symm
 ·have e1 : dig (X / Y) j = (X % (Y * 4294967296 ^ (j + 1))) / (Y * 4294967296 ^ j) := by
   unfold dig;rw [Nat.div_div_eq_div_mul,Nat.pow_succ,<-Nat.mul_assoc,Nat.mod_mul_right_div_self]
  rw [e1,<-h,Nat.mul_comm Y,<-Nat.div_div_eq_div_mul,Nat.add_mul_div_right _ _ hbj,Nat.div_eq_of_lt hl,Nat.zero_add]
theorem start_small (x y n m p:Nat) (hy:nl y=n) (hx:nl x=m) (h1:1<=n) (hnm:n<=m) (hp:0<p):x*p<y*p*4294967296 ^ (m - n+1):=by
 have h2:4294967296 ^ (n - 1)<=y:=by rw [<-lt_nl];omega
 have h3:x<4294967296 ^ m:=by have:=lt_pow_nl x;rwa [hx] at this
 have h4:4294967296 ^ m<=y*4294967296 ^ (m - n+1):=by
  have:(4294967296:Nat) ^ m=4294967296 ^ (n - 1)*4294967296 ^ (m - n+1):=by rw [<-Nat.pow_add];congr 1;omega
  rw [this];exact Nat.mul_le_mul_right _ h2
 have h5:y*p*4294967296 ^ (m - n+1)=y*4294967296 ^ (m - n+1)*p:=by ac_rfl
 rw [h5];exact Nat.mul_lt_mul_of_pos_right (jm h3 h4) hp
end Go.Proofs.YtgmopcncbpdniaaGreat
namespace Go.Proofs.YtgmopcncbpdniaaGreat
open Go.RowKit
def lcs (x n:Nat):List Value:=(List.range n).map (lc x)
theorem lcs_length (x n:Nat):(lcs x n).length=n:=by simp [lcs]
theorem lcs_get (x n i:Nat) (h:i<n):(lcs x n)[i]? = some (lc x i):=by simp [lcs,h]
theorem lcs_one (x n:Nat):∀ u ∈ lcs x n,u.oneCell'=true:=by
 intro u hu;simp only [lcs,List.mem_map] at hu;obtain⟨i,_,rfl⟩:=hu;rfl
theorem lcs_cells {w:World} {a:Option Addr} {b o c n x:Nat} (h:IsSl w a b o c n (lc x)) {ad:Addr} (ha:a=some ad):∀ j u,(lcs x n)[j]? = some u->w.cell? (ad.add j)=some u:=by
 intro j u hj
 have hjn:j<n:=by
  have:=(List.getElem?_eq_some_iff.1 hj).1
  rwa [lcs_length] at this
 have hat:=h.at_ (by omega);rw [ha] at hat;obtain rfl:=Option.some.inj hat;rw [lcs_get _ _ _ hjn] at hj;obtain rfl:=Option.some.inj hj
 have e:(⟨b,o,none⟩:Addr).add j=⟨b,o+j,none⟩:=by
  unfold Addr.add;split <;> simp_all
 rw [e];exact h.cell j hjn
theorem mag_nil (w:World):Mag w (.slice none 0 0) 0:=
 ⟨none,0,0,0,rfl,⟨Nat.le_refl _,fun h=>by simp [nl] at h,fun h=>by simp [nl] at h,fun i hi=>by simp [nl] at hi,fun _=>rfl⟩⟩
theorem part_less (u v : Value) (x y : Nat) (w : World) (hu : Mag w u x) (hv : Mag w v y) (hlt : x < y) (bx : nl x <= 1099511627776) (b_y : nl y <= 1099511627776) :
  Calls Tryz.prog 134 #[u,v] w fun e w'=>∃ q r,e = .returned (.tuple #[q,r])/\Mag w' q (x / y)/\Mag w' r (x % y)/\Below w.heap.size w w':=by
 have hcm:cmpN x y = -1:=by simp [cmpN,hlt]
 have HC:=jj (fun (W:World)=>compare_any u v x y W);have HU:=jj hu;have HV:=jj hv;have hdiv:x / y=0:=Nat.div_eq_of_lt hlt;have hmod:x % y=x:=Nat.mod_eq_of_lt hlt;rw [hdiv,hmod];clear hdiv hmod hlt;obtain⟨a1,b1,o1,c1,rfl,i1⟩:=hu;have HI:=jj i1;obtain⟨i0,hi,hz0,hz1,hz2⟩:=info_parts info32;cases a1 with
 | none=>
  have hc0:c1=0:=i1.nc rfl;have hn0:nl x=0:=by have:=i1.cap;omega
  subst hc0;have HN:=jj hn0;have hz:x=0:=(nl_eq_zero x).1 hn0;subst hz;go_enter Tryz.func134,Tryz.ntmps134;go_wp2_with (go_at_call 105;refine (HC.out _ HU.out HV.out (by omega) (by omega)).mono ?_;rintro e w' ⟨rfl,nd,rfl⟩);go_ret2;exact⟨.slice none 0 0,.slice none 0 0,rfl,mag_nil _,mag_nil _,(Drawn.of _ _).below _⟩
 | some ad=>
  go_enter Tryz.func134,Tryz.ntmps134;go_wp2_with (first | (go_at_call 105;refine (HC.out _ HU.out HV.out (by omega) (by omega)).mono ?_;rintro e w' ⟨rfl,nd,rfl⟩) | (at_builtin;refine wpList_append_own _ rfl _ _ 88 rfl w.heap.size 145 i0 (.int .u32 0) 1 4 Tryz.underlying88 hi hz0 hz1 hz2 rfl (by decide) _ _ _ rfl (World.ownsRow_nil _ _ _ _) ad (nl x) c1 (lcs x (nl x)) rfl (by rw [lcs_length];omega) (lcs_cells (HI.out.drawn (Drawn.of _ _)) rfl) (lcs_one _ _) (by unfold maxLen;omega) (by omega) (by simp) ?_;intro v' w1 hown hgrow _));go_ret2;rw [Nat.zero_add,List.nil_append] at hown;exact⟨.slice none 0 0,v',rfl,mag_nil _,Sl.of_own hown (fun i hi=>lcs_get _ _ _ hi),((Drawn.of w nd).below _).grown hgrow (by simp) (fun k h=>by cases h)⟩
theorem Mag.drawn {w w':World} {v:Value} {x:Nat} (h:Mag w v x) (hd:Drawn w w'):Mag w' v x:=by
 obtain⟨a,b,o,c,rfl,hs⟩:=h;exact⟨a,b,o,c,rfl,hs.drawn hd⟩
theorem isSl_one (r : Nat) {w : World} {b : Nat} (hc : w.cell? ⟨b, 0, none⟩ = some (.int .u32 (r : Nat))) (hb : b < w.heap.size) :
    IsSl w (some ⟨b,0,none⟩) b 0 1 1 (fun i=>.int .u32 ((fun _=>r) i:Nat)):=
  ⟨Nat.le_refl _, fun _ => rfl, fun _ => hb, fun i hi => by obtain rfl : i = 0 := by omega
                                                            exact hc,fun e=>by cases e⟩
theorem trim_one (r : Nat) (hr : r < 4294967296) {w : World} {b : Nat} (hc : w.cell? ⟨b, 0, none⟩ = some (.int .u32 (r : Nat))) (hb : b < w.heap.size) :
  Mag w (.slice (some ⟨b,0,none⟩) (trimN (fun _=>r) 1) 1) r:=by
 have h2:=trim_mag (f:=fun _=>r) (fun i _=>hr) (isSl_one r hc hb);simpa [valF] using h2
theorem part_one (u v : Value) (x y : Nat) (w : World) (hu : Mag w u x) (hv : Mag w v y) (hle : y <= x) (hny : nl y = 1) (bx : nl x <= 1099511627776) :
  Calls Tryz.prog 134 #[u,v] w fun e w'=>∃ q r,e = .returned (.tuple #[q,r])/\Mag w' q (x / y)/\Mag w' r (x % y)/\Below w.heap.size w w':=by
 have hcm:0<=cmpN x y:=by unfold cmpN;rw [if_neg (by omega)];split <;> omega
 have hyp:0<y:=by
  rcases Nat.eq_zero_or_pos y with q | q
  ·rw [q] at hny;simp [nl] at hny
  ·exact q
 have hyl:y<4294967296:=by have:=lt_pow_nl y;rw [hny] at this;simpa using this
 have HC:=jj (fun (W:World)=>compare_any u v x y W);have HBW:=jj (fun (W:World)=>byWord_any u x y W);have HU:=jj hu;have HV:=jj hv;obtain⟨a1,b1,o1,c1,rfl,i1⟩:=hu;obtain⟨a2,b2,o2,c2,rfl,i2⟩:=hv;have hc:=i2.cell 0 (by omega);have hd0:dig y 0=y:=by unfold dig;simp;exact hyl
 simp only [lc,hd0,Nat.add_zero] at hc;have hx0:=fun W=>ix32 i2 0 (by omega) (by omega) (nl y) c2 W
 simp only [Int.toNat_zero] at hx0;have hl1:(((nl y:Nat):Int) == 1)=true:=by rw [hny];rfl
 have hrm:(x:Nat) % y<4294967296:=Nat.lt_trans (Nat.mod_lt _ hyp) hyl;have HNY:=jj hny;clear hd0 hny hle;go_enter Tryz.func134,Tryz.ntmps134;go_wp2_with (first | (go_at_call 105;refine (HC.out _ HU.out HV.out (by omega) (by have:=HNY.out;omega)).mono ?_;rintro e w' ⟨rfl,nd,rfl⟩) | (go_at_call 135;refine (HBW.out _ (HU.out.drawn (Drawn.of _ _)) hyp hyl bx).mono ?_;rintro e w1 ⟨q,rfl,hq,hb⟩));refine (trim_any (some ⟨w1.heap.size,0,none⟩) w1.heap.size 0 1 1 (fun _=>x % y) _ (by omega) (isSl_one (x % y) (by simp) (by simp))).mono ?_;rintro e w' ⟨rfl,hww⟩;have hww2:=hww.symm;clear hww;subst hww2;go_wp2;go_ret2;refine⟨q,_,rfl,hq.alloc _,?_,(((Drawn.of w nd).below _).trans (hb.mono jl)).alloc (by have:=hb.size;simpa using this) _⟩;exact trim_one (x % y) hrm (by simp) (by simp)
structure Own2 (w:World) (b:Nat) (x y:Value):Prop where
 c0:w.cell? ⟨b,0,none⟩=some x
 c1:w.cell? ⟨b,1,none⟩=some y
 f:∀ o,w.frozen? ⟨b,o,none⟩=false
 lt:b<w.heap.size
structure Own4 (w:World) (b:Nat) (x y z u:Value):Prop where
 c0:w.cell? ⟨b,0,none⟩=some x
 c1:w.cell? ⟨b,1,none⟩=some y
 c2:w.cell? ⟨b,2,none⟩=some z
 c3:w.cell? ⟨b,3,none⟩=some u
 f:∀ o,w.frozen? ⟨b,o,none⟩=false
 lt:b<w.heap.size
theorem Own2.below {w w':World} {b B:Nat} {x y:Value} (h:Own2 w b x y) (hb:Below B w w') (hB:b<B):Own2 w' b x y:=
 ⟨(hb.cell (p:=⟨b,0,none⟩) hB).trans h.c0,(hb.cell (p:=⟨b,1,none⟩) hB).trans h.c1,fun o=>(hb.frozen (p:=⟨b,o,none⟩) hB).trans (h.f o),jm h.lt hb.size⟩
theorem Own4.below {w w':World} {b B:Nat} {x y z u:Value} (h:Own4 w b x y z u) (hb:Below B w w') (hB:b<B):Own4 w' b x y z u:=
 ⟨(hb.cell (p:=⟨b,0,none⟩) hB).trans h.c0,(hb.cell (p:=⟨b,1,none⟩) hB).trans h.c1,(hb.cell (p:=⟨b,2,none⟩) hB).trans h.c2,(hb.cell (p:=⟨b,3,none⟩) hB).trans h.c3,fun o=>(hb.frozen (p:=⟨b,o,none⟩) hB).trans (h.f o),jm h.lt hb.size⟩
theorem Own2.alloc {w:World} {b:Nat} {x y:Value} (h:Own2 w b x y) (o:Obj):Own2 (w.alloc o) b x y:=h.below ((jr w).alloc jl o) h.lt
theorem Own4.alloc {w:World} {b:Nat} {x y z u:Value} (h:Own4 w b x y z u) (o:Obj):Own4 (w.alloc o) b x y z u:=h.below ((jr w).alloc jl o) h.lt
theorem Own2.drew {w:World} {b:Nat} {x y:Value} (h:Own2 w b x y):Own2 w.drew b x y:=⟨h.c0,h.c1,h.f,h.lt⟩
theorem Own4.drew {w:World} {b:Nat} {x y z u:Value} (h:Own4 w b x y z u):Own4 w.drew b x y z u:=⟨h.c0,h.c1,h.c2,h.c3,h.f,h.lt⟩
theorem Own2.drawn {w w':World} {b:Nat} {x y:Value} (h:Own2 w b x y) (hd:Drawn w w'):Own2 w' b x y:=h.below (hd.below w.heap.size) h.lt
theorem own2_new (w:World) (b:Nat) (hb:b=w.heap.size) (x y:Value) (t:TypeId):Own2 (w.alloc (.cells #[x,y] t)) b x y:=by
 subst hb;exact⟨by simp [go_sem],by simp [go_sem],fun o=>by simp [go_sem],by simp⟩
theorem own4_new (w:World) (b:Nat) (hb:b=w.heap.size) (x y z u:Value) (t:TypeId):Own4 (w.alloc (.cells #[x,y,z,u] t)) b x y z u:=by
 subst hb;exact⟨by simp [go_sem],by simp [go_sem],by simp [go_sem],by simp [go_sem],fun o=>by simp [go_sem],by simp⟩
theorem far_set (w:World) (b' o b o':Nat) (v:Value) (hne:b'≠b):(w.setCell ⟨b',o,none⟩ v).cell? ⟨b,o',none⟩=w.cell? ⟨b,o',none⟩:=
 cell?_setCell_ne' w _ _ v (by intro e;injection e with e1 _;exact hne e1.symm) rfl rfl
theorem Own2.setCell {w:World} {b:Nat} {x y:Value} (h:Own2 w b x y) (b' o:Nat) (v:Value) (hne:b'≠b):Own2 (w.setCell ⟨b',o,none⟩ v) b x y:=
 ⟨(far_set w b' o b _ v hne).trans h.c0,(far_set w b' o b _ v hne).trans h.c1,fun o'=>by rw [World.frozen?_setCell];exact h.f o',by simp only [World.setCell,Array.size_modify];exact h.lt⟩
theorem Own4.setCell {w:World} {b:Nat} {x y z u:Value} (h:Own4 w b x y z u) (b' o:Nat) (v:Value) (hne:b'≠b):Own4 (w.setCell ⟨b',o,none⟩ v) b x y z u:=
 ⟨(far_set w b' o b _ v hne).trans h.c0,(far_set w b' o b _ v hne).trans h.c1,(far_set w b' o b _ v hne).trans h.c2,(far_set w b' o b _ v hne).trans h.c3,fun o'=>by rw [World.frozen?_setCell];exact h.f o',by simp only [World.setCell,Array.size_modify];exact h.lt⟩
theorem Own4.set4 {w : World} {b : Nat} {x y z u : Value} (h : Own4 w b x y z u) (b' : Nat) (v0 v1 v2 v3 : Value) (hne : b' ≠ b) :
  Own4 ((((w.setCell ⟨b',0,none⟩ v0).setCell ⟨b',1,none⟩ v1).setCell ⟨b',2,none⟩ v2).setCell ⟨b',3,none⟩ v3) b x y z u:=
 (((h.setCell b' 0 v0 hne).setCell b' 1 v1 hne).setCell b' 2 v2 hne).setCell b' 3 v3 hne
theorem self_set {w:World} {b o:Nat} {v u:Value} (h:w.cell? ⟨b,o,none⟩=some v):(w.setCell ⟨b,o,none⟩ u).cell? ⟨b,o,none⟩=some u:=by simp [go_sem,h]
theorem off_set {w:World} {b o o':Nat} {v u:Value} (hne:o'≠o) (h:w.cell? ⟨b,o',none⟩=some v):(w.setCell ⟨b,o,none⟩ u).cell? ⟨b,o',none⟩=some v:=
 (cell?_setCell_ne' w ⟨b,o,none⟩ ⟨b,o',none⟩ u (by intro e;injection e with _ e2;exact hne e2) rfl rfl).trans h
theorem Own4.anew {w : World} {b : Nat} {x y z u : Value} (h : Own4 w b x y z u) (v0 v1 v2 v3 : Value) :
    Own4 ((((w.setCell ⟨b,0,none⟩ v0).setCell ⟨b,1,none⟩ v1).setCell ⟨b,2,none⟩ v2).setCell ⟨b,3,none⟩ v3) b v0 v1 v2 v3:=
  ⟨off_set (by decide) (off_set (by decide) (off_set (by decide) (self_set h.c0))),
   off_set (by decide) (off_set (by decide) (self_set (off_set (by decide) h.c1))),
   off_set (by decide) (self_set (off_set (by decide) (off_set (by decide) h.c2))),
   self_set (off_set (by decide) (off_set (by decide) (off_set (by decide) h.c3))),
   fun o=>by simp only [World.frozen?_setCell];exact h.f o,by simp only [World.setCell,Array.size_modify];exact h.lt⟩
structure Rd4 (w:World) (b o:Nat) (x y z u:Value):Prop where
 c0:w.cell? ⟨b,o,none⟩=some x
 c1:w.cell? ⟨b,o+1,none⟩=some y
 c2:w.cell? ⟨b,o+2,none⟩=some z
 c3:w.cell? ⟨b,o+3,none⟩=some u
 lt:b<w.heap.size
theorem Rd4.below {w w':World} {b o B:Nat} {x y z u:Value} (h:Rd4 w b o x y z u) (hb:Below B w w') (hB:b<B):Rd4 w' b o x y z u:=
 ⟨(hb.cell (p:=⟨b,o,none⟩) hB).trans h.c0,(hb.cell (p:=⟨b,o+1,none⟩) hB).trans h.c1,(hb.cell (p:=⟨b,o+2,none⟩) hB).trans h.c2,(hb.cell (p:=⟨b,o+3,none⟩) hB).trans h.c3,jm h.lt hb.size⟩
end Go.Proofs.YtgmopcncbpdniaaGreat
