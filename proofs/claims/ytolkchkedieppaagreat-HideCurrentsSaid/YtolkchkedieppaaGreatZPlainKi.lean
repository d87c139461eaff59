import Derived.Test.YtolkchkedieppaaGreatZRdB
import Derived.BigQuiet
import Derived.Test.YtolkchkedieppaaGreatZLnA
import Derived.Test.YtolkchkedieppaaGreatZLayB
import Derived.Test.YtolkchkedieppaaGreatZSameR
import Derived.Deep.LoopGhost
import Derived.Test.YtolkchkedieppaaGreatZLawO
import Derived.Test.YtolkchkedieppaaGreatZNetB
import Derived.Laws.OwnMore
import Derived.Deep.DeepCutAuto
import Derived.Deep.CutBlock
import Derived.BigRegion
import Derived.Test.YtolkchkedieppaaGreatZFloat4
import Derived.Deep.RegionHeld3
import Derived.Test.YtolkchkedieppaaGreatZRMat
import Derived.Test.YtolkchkedieppaaGreatZHtB
import Derived.Test.YtolkchkedieppaaGreatZCurA
set_option linter.unusedVariables false
set_option linter.unusedSimpArgs false
namespace Go.Proofs.YtolkchkedieppaaGreat
open Go.RowKit
attribute [local go_sem ↓] Go.wp_at_zero Go.wp_at_succ
set_option maxHeartbeats 1000000 in
set_option maxRecDepth 100000 in
theorem rin_any (x a b:Int) (r:Bool) (hr:r=true↔a≤x∧x≤b) (w:World) :
  Calls Tryz.prog 59 #[.int .i64 x,.int .i64 a,.int .i64 b] w fun e w'=>e = .returned (.bool r)∧w=w':=by
 by_cases h1:a≤x
 ·have d1:decide (a≤x)=true:=by simpa using h1
  by_cases h2:x≤b
  ·have d2:decide (x≤b)=true:=by simpa using h2
   obtain rfl:r=true:=hr.2 ⟨h1,h2⟩
   clear hr h1 h2
   go_enter Tryz.func59,Tryz.ntmps59
   go_wp2
   go_ret
   exact⟨rfl,rfl⟩
  ·have d2:decide (x≤b)=false:=by simpa using h2
   obtain rfl:r=false:=by
    rcases r with _ | _
    ·rfl
    ·exact absurd (hr.1 rfl).2 h2
   clear hr h1 h2
   go_enter Tryz.func59,Tryz.ntmps59
   go_wp2
   go_ret
   exact⟨rfl,rfl⟩
 ·have d1:decide (a≤x)=false:=by simpa using h1
  obtain rfl:r=false:=by
   rcases r with _ | _
   ·rfl
   ·exact absurd (hr.1 rfl).1 h1
  clear hr h1
  go_enter Tryz.func59,Tryz.ntmps59
  go_wp2
  go_ret
  exact⟨rfl,rfl⟩
end Go.Proofs.YtolkchkedieppaaGreat
namespace Go.Proofs.YtolkchkedieppaaGreat
open Go.RowKit
attribute [local go_sem ↓] Go.wp_at_zero Go.wp_at_succ
theorem prL_len:∀ P:List (Int × Int),(prL P).length=P.length*2
 | []=>rfl
 | p :: l=>by simp only [prL,List.length_append,List.length_cons,List.length_nil,prL_len l];omega
theorem prL_get:∀ (P:List (Int × Int)) (i:Nat),i<P.length→(prL P)[i*2]? = some (.int .i64 (P.getD i (0,0)).1)∧(prL P)[i*2+1]? = some (.int .i64 (P.getD i (0,0)).2)
 | [],i,h=>by simp at h
 | p :: l,0,_=>by simp [prL]
 | p :: l,i+1,h=>by
  have ih:=prL_get l i (by simpa using h)
  simp only [prL]
  rw [show (i+1)*2=i*2+2 by omega]
  rw [List.getElem?_append_right (by simp),List.getElem?_append_right (by simp only [List.length_cons,List.length_nil];omega)]
  simpa using ih
theorem prR_own {w:World} {base g c:Nat} {P:List (Int × Int)} (h:w.ownsRow base 40 2 (.slice (some ⟨g,0,none⟩) P.length c) P.length (prL P)):PrR w g 0 P∧g<w.heap.size:=by
 rcases h.2 with ⟨h',_⟩ | ⟨g',cap,cur,hv,hbg,hg,hc,hm,hs,ht⟩
 ·simp at h'
 ·simp only [Value.slice.injEq,Option.some.injEq,Addr.mk.injEq,and_true,true_and] at hv
  obtain⟨rfl,rfl⟩:=hv
  have hcell:∀ j u,j<P.length*2→(prL P)[j]? = some u→w.cell? ⟨g,j,none⟩=some u:=fun j u hj hu=>by
   rw [cell_of_row _ g j _ _ (0,0) hg,←hu,←ht,List.getElem?_take,if_pos hj,Array.getElem?_toList]
  refine⟨⟨fun i hi=>?_,fun i hi=>?_⟩,(Array.getElem?_eq_some_iff.1 hg).1⟩
  ·rw [Nat.zero_add];exact hcell _ _ (by omega) (prL_get P i hi).1
  ·rw [Nat.zero_add];exact hcell _ _ (by omega) (prL_get P i hi).2
end Go.Proofs.YtolkchkedieppaaGreat
namespace Go.Proofs.YtolkchkedieppaaGreat
open Go.RowKit
structure NetP (S J:List Tr) (W H:Nat):Prop where
 m:MkC S W H
 few:S.length≤24
 can:CanL J (edgeC S)
section
variable {S J:List Tr} {W H:Nat} (h:NetP S J W H)
include h
omit h in
end
end Go.Proofs.YtolkchkedieppaaGreat
namespace Go.Proofs.YtolkchkedieppaaGreat
theorem tri_rows (a:Nat→Nat→Rat) (k:Nat) (piv:∀ c,c<k→triQ a c c c≠0):∀ c,c≤k→∀ i,c≤i→(∃ y:Nat→Rat,∀ j,triQ a c i j=a i j - sumQ (fun m=>y m*a m j) c)∧∀ j,j<c→triQ a c i j=0
 | 0,_,i,_=>⟨⟨fun _=>0,fun j=>by simp only [triQ,sumQ];grind⟩,fun j hj=>by omega⟩
 | c+1,hc,i,hi=>by
  obtain⟨⟨y,hy⟩,hz⟩:=tri_rows a k piv c (by omega) i (by omega)
  obtain⟨⟨u,hu⟩,hv⟩:=tri_rows a k piv c (by omega) c (Nat.le_refl _)
  have hp:=piv c (by omega)
  have hall:∀ j,triQ a (c+1) i j=triQ a c i j - triQ a c i c / triQ a c c c*triQ a c c j:=fun j=>by
   show elimQ c (triQ a c) i j=_
   unfold elimQ
   by_cases e:c<i∧c≤j
   ·rw [if_pos e]
   ·rw [if_neg e,hv j (by omega),hz j (by omega)];grind
  obtain⟨μ,hμ⟩:∃ μ,μ=triQ a c i c / triQ a c c c:=⟨_,rfl⟩
  rw [←hμ] at hall
  refine⟨⟨fun m=>if m=c then μ else y m - μ*u m,fun j=>?_⟩,fun j hj=>?_⟩
  ·rw [hall j,hy j,hu j]
   simp only [sumQ]
   have e1:sumQ (fun m=>(if m=c then μ else y m - μ*u m)*a m j) c=sumQ (fun m=>y m*a m j) c - μ*sumQ (fun m=>u m*a m j) c:=by
    rw [←sumQ_mul,←sumQ_sub]
    refine sumQ_congr c (fun m hm=>?_)
    rw [if_neg (by omega)];grind
   rw [e1,if_true]
   grind
  ·rw [hall j]
   by_cases e:j=c
   ·subst e
    rw [hμ,Rat.div_def]
    have:=Rat.inv_mul_cancel _ hp
    grind
   ·rw [hz j (by omega),hv j (by omega)];grind
theorem tri_ker (a:Nat→Nat→Rat) (k:Nat) (piv:∀ c,c<k→triQ a c c c≠0):∀ c,c≤k→∀ z:Nat→Rat,(∀ l,l<c→sumQ (fun m=>z m*a m l) c=0)→∀ m,m<c→z m=0
 | 0,_,z,_=>fun m hm=>by omega
 | c+1,hc,z,h=>by
  obtain⟨⟨y,hy⟩,hv⟩:=tri_rows a k piv c (by omega) c (Nat.le_refl _)
  have hp:=piv c (by omega)
  have hs:∀ l,sumQ (fun m=>(z m+z c*y m)*a m l) c=sumQ (fun m=>z m*a m l) c+z c*sumQ (fun m=>y m*a m l) c:=fun l=>by
   rw [←sumQ_mul,←sumQ_add]
   exact sumQ_congr c (fun m _=>by grind)
  have h1:∀ m,m<c→z m+z c*y m=0:=tri_ker a k piv c (by omega) (fun m=>z m+z c*y m) (fun l hl=>by
   have h2:=h l (by omega)
   simp only [sumQ] at h2
   have h3:=hy l
   rw [hv l hl] at h3
   rw [hs l]
   grind)
  have h4:=h c (by omega)
  simp only [sumQ] at h4
  have h5:sumQ (fun m=>(z m+z c*y m)*a m c) c=0:=sumQ_eq_zero c (fun m hm=>by rw [h1 m hm];grind)
  rw [hs c] at h5
  have h6:=hy c
  have h7:z c*triQ a c c c=0:=by rw [h6];grind
  have h8:z c=0:=by
   rcases Rat.mul_eq_zero.1 h7 with q | q
   ·exact q
   ·exact absurd q hp
  intro m hm
  by_cases e:m=c
  ·rw [e];exact h8
  ·have:=h1 m (by omega)
   rw [h8] at this
   grind
theorem nl_bdI {B:Nat} (hB:nl B≤1):∀ c,nl (bdI B c)≤2 ^ (c+1) - 1
 | 0=>hB
 | c+1=>by
  have ih:=nl_bdI hB c
  have h1:nl 2≤1:=by decide
  have h2:=nl_mul_le 2 (bdI B c*bdI B c)
  have h3:=nl_mul_le (bdI B c) (bdI B c)
  have h4:2 ^ (c+1+1)=2*2 ^ (c+1):=by rw [Nat.pow_succ,Nat.mul_comm]
  have h5:0<2 ^ (c+1):=Nat.pow_pos (by decide)
  show nl (2*(bdI B c*bdI B c))≤_
  omega
theorem tri_bound {B:Nat} (k:Nat) (A:Nat→Nat→Int) (hB:∀ i j,(A i j).natAbs≤B) (hB1:1≤B) (piv:∀ c,c<k→triQ (fun i j=>(A i j:Rat)) c c c≠0) (c i j:Nat) (hci:c≤i) (hi:i<k) :
  ∃ p q:Int,q≠0∧p.natAbs≤bdI B (c+1)∧q.natAbs≤bdI B (c+1)∧(q:Rat)*triQ (fun i j=>(A i j:Rat)) c i j=(p:Rat):=by
 obtain⟨⟨y,hy⟩,hz⟩:=tri_rows (fun i j=>(A i j:Rat)) k piv c (by omega) i hci
 have hk:=tri_ker (fun i j=>(A i j:Rat)) k piv c (by omega)
 have hsys:SysI (c+1) (c+1) (fun _=>False) (fun r m=>if r<c then (if m<c then A m r else if m=c then 0 else A i r) else (if m<c then A m j else if m=c then 1 else A i j)) B (fun m=>if m<c then y m else triQ (fun i j=>(A i j:Rat)) c i j):=by
  refine⟨fun r m hr hm=>?_,fun r m _ _ h=>h.elim,fun r hr=>?_,fun z _ hs=>?_⟩
  ·split
   ·split
    ·exact hB _ _
    ·split
     ·simp
     ·exact hB _ _
   ·split
    ·exact hB _ _
    ·split
     ·simpa using hB1
     ·exact hB _ _
  ·simp only [sumQ]
   rw [if_neg (Nat.lt_irrefl c)]
   by_cases e:r<c
   ·simp only [if_pos e]
    rw [if_neg (Nat.lt_irrefl c),if_true,if_neg (show ¬ c+1<c by omega),if_neg (show ¬ c+1=c by omega)]
    have e1:sumQ (fun m=>(((if m<c then A m r else if m=c then 0 else A i r:Int)):Rat)*(if m<c then y m else triQ (fun i j=>(A i j:Rat)) c i j)) c=sumQ (fun m=>y m*(A m r:Rat)) c:=sumQ_congr c (fun m hm=>by rw [if_pos hm,if_pos hm];grind)
    rw [e1]
    have h3:=hy r
    rw [hz r e] at h3
    have h0:((0:Int):Rat)=0:=rfl
    rw [h0]
    grind
   ·simp only [if_neg e]
    rw [if_neg (Nat.lt_irrefl c),if_true,if_neg (show ¬ c+1<c by omega),if_neg (show ¬ c+1=c by omega)]
    have e1:sumQ (fun m=>(((if m<c then A m j else if m=c then 1 else A i j:Int)):Rat)*(if m<c then y m else triQ (fun i j=>(A i j:Rat)) c i j)) c=sumQ (fun m=>y m*(A m j:Rat)) c:=sumQ_congr c (fun m hm=>by rw [if_pos hm,if_pos hm];grind)
    rw [e1]
    have h3:=hy j
    have h0:((1:Int):Rat)=1:=rfl
    rw [h0]
    grind
  ·have h1:∀ m,m<c→z m=0:=hk z (fun l hl=>by
    have h2:=hs l (by omega)
    simp only [sumQ,if_pos hl] at h2
    rw [if_neg (Nat.lt_irrefl c),if_true] at h2
    have e1:sumQ (fun m=>(((if m<c then A m l else if m=c then 0 else A i l:Int)):Rat)*z m) c=sumQ (fun m=>z m*(A m l:Rat)) c:=sumQ_congr c (fun m hm=>by rw [if_pos hm];grind)
    rw [e1] at h2
    have h0:((0:Int):Rat)=0:=rfl
    rw [h0] at h2
    grind)
   intro m hm
   by_cases e:m<c
   ·exact h1 m e
   ·obtain rfl:m=c:=by omega
    have h2:=hs m (by omega)
    simp only [sumQ,if_neg (Nat.lt_irrefl m)] at h2
    rw [if_true] at h2
    rw [sumQ_eq_zero m (fun l hl=>by rw [h1 l hl];grind)] at h2
    have h0:((1:Int):Rat)=1:=rfl
    rw [h0] at h2
    grind
 obtain⟨p,q,h1,h2,h3,h4⟩:=hsys.bound c (by omega)
 rw [if_neg (Nat.lt_irrefl c)] at h4
 exact⟨p,q,h1,h2,h3,h4⟩
theorem tri_sz {B:Nat} (k:Nat) (hk:k≤24) (A:Nat→Nat→Int) (hB:∀ i j,(A i j).natAbs≤B) (hB1:1≤B) (hB2:nl B≤1) (piv:∀ c,c<k→triQ (fun i j=>(A i j:Rat)) c c c≠0) (c i j:Nat) (hi:i<k):szQ (triQ (fun i j=>(A i j:Rat)) c i j)≤33554432:=by
 have key:∀ c,c≤i→szQ (triQ (fun i j=>(A i j:Rat)) c i j)≤33554432:=fun c hci=>by
  obtain⟨p,q,h1,h2,h3,h4⟩:=tri_bound k A hB hB1 piv c i j hci hi
  have h5:=nl_bdI hB2 (c+1)
  have h6:2 ^ (c+1+1)≤2 ^ 25:=Nat.pow_le_pow_right (by decide) (by omega)
  have h7:(2:Nat) ^ 25=33554432:=by decide
  rw [h7] at h6
  exact szQ_quot h1 h4 (Nat.le_trans (nl_mono h2) (by omega)) (Nat.le_trans (nl_mono h3) (by omega))
 by_cases e:c≤i
 ·exact key c e
 ·have:=triQ_row (fun i j=>(A i j:Rat)) i j (c - i) i (Nat.le_refl _)
  rw [show i+(c - i)=c by omega] at this
  rw [this]
  exact key i (Nat.le_refl _)
end Go.Proofs.YtolkchkedieppaaGreat
namespace Go.Proofs.YtolkchkedieppaaGreat
open Go.RowKit
theorem cast_add (M:Nat→Nat→Int) (p q:Nat) (x:Int) (i j:Nat):castM (addI M p q x) i j=castM M i j+(if i=p∧j=q then (x:Rat) else 0):=by
 unfold castM addI
 by_cases h:i=p∧j=q
 ·rw [if_pos h,if_pos h,Rat.intCast_add]
 ·rw [if_neg h,if_neg h];grind
theorem sumQ_at (f:Nat→Rat) (k N:Nat) (x:Rat):sumQ (fun i=>f i+(if i=k then x else 0)) N=sumQ f N+(if k<N then x else 0):=by
 rw [sumQ_add]
 by_cases h:k<N
 ·rw [if_pos h,sumQ_one _ k N h (fun i _ hn=>if_neg hn),if_pos rfl]
 ·rw [if_neg h,sumQ_eq_zero N (fun i hi=>if_neg (by omega))]
def colS (N:Nat) (M:Nat→Nat→Int) (j:Nat):Rat:=sumQ (fun i=>castM M i j) N
theorem colS_add (N:Nat) (M:Nat→Nat→Int) (p q:Nat) (x:Int) (j:Nat) (hp:p<N):colS N (addI M p q x) j=colS N M j+(if j=q then (x:Rat) else 0):=by
 unfold colS
 by_cases h:j=q
 ·rw [if_pos h,sumQ_congr N (g:=fun i=>castM M i j+(if i=p then (x:Rat) else 0)) (fun i _=>by rw [cast_add];congr 1;by_cases e:i=p <;> simp [e,h]),sumQ_at,if_pos hp]
 ·rw [if_neg h,sumQ_congr N (g:=fun i=>castM M i j) (fun i _=>by rw [cast_add,if_neg (fun e=>h e.2)];grind)]
  grind
def frm (N:Nat) (M:Nat→Nat→Int) (z:Nat→Rat):Rat:=sumQ (fun i=>z i*sumQ (fun j=>castM M i j*z j) N) N
theorem frm_add (N:Nat) (M:Nat→Nat→Int) (p q:Nat) (x:Int) (z:Nat→Rat) (hp:p<N) (hq:q<N):frm N (addI M p q x) z=frm N M z+(x:Rat)*z p*z q:=by
 unfold frm
 have h1:∀ i,sumQ (fun j=>castM (addI M p q x) i j*z j) N=sumQ (fun j=>castM M i j*z j) N+(if i=p then (x:Rat)*z q else 0):=fun i=>by
  by_cases e:i=p
  ·rw [if_pos e,sumQ_congr N (g:=fun j=>castM M i j*z j+(if j=q then (x:Rat)*z q else 0)) (fun j _=>by
    rw [cast_add]
    by_cases e2:j=q
    ·rw [if_pos ⟨e,e2⟩,if_pos e2,e2];grind
    ·rw [if_neg (fun h=>e2 h.2),if_neg e2];grind),sumQ_at,if_pos hq]
  ·rw [if_neg e,sumQ_congr N (g:=fun j=>castM M i j*z j) (fun j _=>by rw [cast_add,if_neg (fun h=>e h.1)];grind)]
   grind
 rw [sumQ_congr N (g:=fun i=>z i*sumQ (fun j=>castM M i j*z j) N+(if i=p then (x:Rat)*z p*z q else 0)) (fun i _=>by
  rw [h1 i]
  by_cases e:i=p
  ·rw [if_pos e,if_pos e,e];grind
  ·rw [if_neg e,if_neg e];grind),sumQ_at,if_pos hp]
theorem hStep_off (n:Nat) {M:Nat→Nat→Int} (h:∀ i j,i≠j→M i j≤0) (p q:Nat):∀ i j,i≠j→hStep n M p q i j≤0:=fun i j hij=>by
 have:=h i j hij
 unfold hStep
 split
 ·exact this
 ·split
  ·unfold addI;split <;> split <;> omega
  ·unfold addI;split <;> omega
theorem hMat_off (n:Nat) (W:List (Int × Int)):∀ k i j,i≠j→hMat n W k i j≤0
 | 0,i,j,_=>Int.le_refl _
 | k+1,i,j,h=>hStep_off n (hStep_off n (hMat_off n W k) _ _) _ _ i j h
theorem icast1:((1:Int):Rat)=1:=rfl
theorem icastm:((-1:Int):Rat) = -1:=rfl
theorem wire_col (n:Nat) (M:Nat→Nat→Int) (a b:Nat) (h2:2≤n) (ha:a<n) (hb:b<n) (hab:a≠b) (j:Nat) (hj:j<n - 1):colS (n - 1) M j≤colS (n - 1) (hStep n (hStep n M a b) b a) j:=by
 by_cases e1:a=n - 1
 ·have e2:b<n - 1:=by omega
  have s1:hStep n M a b=M:=by unfold hStep;rw [if_pos e1]
  have s2:hStep n M b a=addI M b b 1:=by unfold hStep;rw [if_neg (by omega),if_neg (by omega)]
  rw [s1,s2,colS_add _ _ _ _ _ _ e2,icast1]
  split <;> grind
 ·have e3:a<n - 1:=by omega
  by_cases e2:b=n - 1
  ·have s1:hStep n M a b=addI M a a 1:=by unfold hStep;rw [if_neg e1,if_neg (by omega)]
   have s2:∀ M,hStep n M b a=M:=fun M=>by unfold hStep;rw [if_pos e2]
   rw [s2,s1,colS_add _ _ _ _ _ _ e3,icast1]
   split <;> grind
  ·have e4:b<n - 1:=by omega
   have s1:hStep n M a b=addI (addI M a a 1) a b (-1):=by unfold hStep;rw [if_neg e1,if_pos e4]
   have s2:∀ M,hStep n M b a=addI (addI M b b 1) b a (-1):=fun M=>by unfold hStep;rw [if_neg e2,if_pos e3]
   rw [s2,s1,colS_add _ _ _ _ _ _ e4,colS_add _ _ _ _ _ _ e4,colS_add _ _ _ _ _ _ e3,colS_add _ _ _ _ _ _ e3,icast1,icastm]
   by_cases q1:j=a
   ·rw [if_pos q1,if_neg (by omega),if_neg (by omega),if_pos q1];grind
   ·by_cases q2:j=b
    ·rw [if_neg q1,if_pos q2,if_pos q2,if_neg q1];grind
    ·rw [if_neg q1,if_neg q2,if_neg q2,if_neg q1];grind
theorem wire_frm (n:Nat) (M:Nat→Nat→Int) (a b:Nat) (h2:2≤n) (ha:a<n) (hb:b<n) (hab:a≠b) (z:Nat→Rat) (hz:z (n - 1)=0):frm (n - 1) (hStep n (hStep n M a b) b a) z=frm (n - 1) M z+(z a - z b)*(z a - z b):=by
 by_cases e1:a=n - 1
 ·have e2:b<n - 1:=by omega
  have s1:hStep n M a b=M:=by unfold hStep;rw [if_pos e1]
  have s2:hStep n M b a=addI M b b 1:=by unfold hStep;rw [if_neg (by omega),if_neg (by omega)]
  rw [s1,s2,frm_add _ _ _ _ _ _ e2 e2,icast1,e1,hz]
  grind
 ·have e3:a<n - 1:=by omega
  by_cases e2:b=n - 1
  ·have s1:hStep n M a b=addI M a a 1:=by unfold hStep;rw [if_neg e1,if_neg (by omega)]
   have s2:∀ M,hStep n M b a=M:=fun M=>by unfold hStep;rw [if_pos e2]
   rw [s2,s1,frm_add _ _ _ _ _ _ e3 e3,icast1,e2,hz]
   grind
  ·have e4:b<n - 1:=by omega
   have s1:hStep n M a b=addI (addI M a a 1) a b (-1):=by unfold hStep;rw [if_neg e1,if_pos e4]
   have s2:∀ M,hStep n M b a=addI (addI M b b 1) b a (-1):=fun M=>by unfold hStep;rw [if_neg e2,if_pos e3]
   rw [s2,s1,frm_add _ _ _ _ _ _ e4 e3,frm_add _ _ _ _ _ _ e4 e4,frm_add _ _ _ _ _ _ e3 e4,frm_add _ _ _ _ _ _ e3 e3,icast1,icastm]
   grind
def enQ (W:List (Int × Int)) (z:Nat→Rat):Nat→Rat:=sumQ (fun m=>(z (wA W m) - z (wB W m))*(z (wA W m) - z (wB W m)))
theorem sq_nn (x:Rat):0≤x*x:=by
 rcases Rat.le_total (a:=0) (b:=x) with h | h
 ·exact Rat.mul_nonneg h h
 ·have h1:0≤-x:=by grind
  have:=Rat.mul_nonneg h1 h1
  grind
section
variable {n:Nat} {W:List (Int × Int)} (h2:2≤n) (hok:WiresOK n W) (hne:∀ k,k<W.length→wA W k≠wB W k)
include h2 hok hne
theorem hMat_frm (z:Nat→Rat) (hz:z (n - 1)=0):∀ k,k≤W.length→frm (n - 1) (hMat n W k) z=enQ W z k
 | 0,_=>by
  unfold frm enQ
  rw [sumQ_eq_zero (n - 1) (fun i hi=>by rw [sumQ_eq_zero (n - 1) (fun j hj=>by show ((0:Int):Rat)*z j=0;grind)];grind)]
  rfl
 | k+1,hk=>by
  have ih:=hMat_frm z hz k (by omega)
  show frm (n - 1) (hStep n (hStep n (hMat n W k) (wA W k) (wB W k)) (wB W k) (wA W k)) z=_
  rw [wire_frm n _ _ _ h2 (hok.a (by omega)).2 (hok.b (by omega)).2 (hne k (by omega)) z hz,ih]
  rfl
theorem hMat_col (j:Nat) (hj:j<n - 1):∀ k,k≤W.length→0≤colS (n - 1) (hMat n W k) j
 | 0,_=>by
  unfold colS
  rw [show sumQ (fun i=>castM (hMat n W 0) i j) (n - 1)=0 from sumQ_eq_zero (n - 1) (fun i hi=>rfl)]
  exact Rat.le_refl
 | k+1,hk=>Rat.le_trans (hMat_col j hj k (by omega)) (wire_col n _ _ _ h2 (hok.a (by omega)).2 (hok.b (by omega)).2 (hne k (by omega)) j hj)
theorem lap_mm (hcon:ConOK n W) (b:Nat→Rat):MMat (n - 1) 0 (augQ (n - 1) (castM (hMat n W W.length)) b):=by
 refine⟨fun i j _ hi _ hj hij=>?_,fun j _ hj=>?_,fun z hz i _ hi=>?_⟩
 ·unfold augQ castM
  rw [if_pos hj]
  have h1:=hMat_off n W W.length i j hij
  have:(((hMat n W W.length i j:Int)):Rat)≤((0:Int):Rat):=Rat.intCast_le_intCast.2 h1
  exact this
 ·have:=hMat_col h2 hok hne j hj W.length (Nat.le_refl _)
  unfold colS at this
  rw [sumQ_congr (n - 1) (g:=fun i=>castM (hMat n W W.length) i j) (fun i _=>by rw [if_pos (Nat.zero_le i)];unfold augQ;rw [if_pos hj])]
  exact this
 ·obtain⟨u,hu⟩:∃ u:Nat→Rat,u=fun i=>if i<n - 1 then z i else 0:=⟨_,rfl⟩
  have u0:u (n - 1)=0:=by rw [hu];simp
  have he:frm (n - 1) (hMat n W W.length) u=0:=by
   unfold frm
   refine sumQ_eq_zero _ (fun i hi=>?_)
   have h3:=hz i (Nat.zero_le _) hi
   rw [sumQ_congr (n - 1) (g:=fun j=>castM (hMat n W W.length) i j*u j) (fun j hj=>by rw [if_pos (Nat.zero_le j)];unfold augQ;rw [if_pos hj,hu];simp [hj])] at h3
   rw [h3];grind
  rw [hMat_frm h2 hok hne u u0 W.length (Nat.le_refl _)] at he
  have hw:∀ k,k<W.length→u (wA W k)=u (wB W k):=fun k hk=>by
   refine Classical.byContradiction (fun hn=>?_)
   have h4:(u (wA W k) - u (wB W k))*(u (wA W k) - u (wB W k))≠0:=fun e=>by
    rcases Rat.mul_eq_zero.1 e with q | q <;> exact hn (by grind)
   have h5:=sq_nn (u (wA W k) - u (wB W k))
   have h6:=sumQ_pos (f:=fun m=>(u (wA W m) - u (wB W m))*(u (wA W m) - u (wB W m))) W.length k hk (fun m _=>sq_nn _) (Rat.lt_of_le_of_ne h5 (fun e=>h4 e.symm))
   unfold enQ at he
   rw [he] at h6
   exact Rat.lt_irrefl h6
  have hr:∀ i,i<n→u i=u 0:=fun i hi=>by
   have:=rea_closed (f:=fun i=>decide (u i=u 0)) (by simp) (fun k hk=>by rw [hw k hk]) (hcon i hi)
   simpa using this
  have h7:=hr i (by omega)
  have h8:=hr (n - 1) (by omega)
  rw [u0] at h8
  rw [←h8,hu] at h7
  simpa [hi] using h7
theorem ht_ok (hn:n≤25) (hl:W.length≤24) (hcon:ConOK n W) (x:Nat→Rat) (KX:Nat) (hx:∀ i,i<n - 1→sumQ (fun j=>castM (hMat n W W.length) i j*x j) (n - 1)=if i=0 then 1 else 0) (hxs:∀ i,i<n - 1→szQ (x i)≤KX) (k1:2≤KX) (k2:KX≤100000000):HtOK n W x 33554432 KX:=by
 obtain⟨a,ha⟩:∃ a:Nat→Nat→Rat,a=augQ (n - 1) (castM (hMat n W W.length)) (fun i=>if i=0 then 1 else 0):=⟨_,rfl⟩
 have mm:MMat (n - 1) 0 a:=by rw [ha];exact lap_mm h2 hok hne hcon _
 obtain⟨A,hA⟩:∃ A:Nat→Nat→Int,A=fun i j=>if j<n - 1 then hMat n W W.length i j else if i=0 then 1 else 0:=⟨_,rfl⟩
 have haA:a=fun i j=>((A i j:Int):Rat):=by
  rw [ha,hA]
  funext i j
  unfold augQ castM
  by_cases e:j<n - 1
  ·simp only [if_pos e]
  ·simp only [if_neg e]
   by_cases e2:i=0
   ·rw [if_pos e2,if_pos e2];rfl
   ·rw [if_neg e2,if_neg e2];rfl
 have hpv:∀ c,c<n - 1→0<triQ a c c c:=fun c hc=>(mm.tri c (by omega)).pivot hc
 have hpn:∀ c,c<n - 1→triQ a c c c≠0:=fun c hc e=>by
  have:=hpv c hc
  rw [e] at this
  exact Rat.lt_irrefl this
 have hdiag:∀ i,i<n - 1→triQ a (n - 1) i i≠0:=fun i hi=>by
  have:=triQ_row a i i (n - 1 - i) i (Nat.le_refl _)
  rw [show i+(n - 1 - i)=n - 1 by omega] at this
  rw [this];exact hpn i hi
 obtain⟨x0,h0⟩:=tri_solution (n - 1) (triQ a (n - 1)) hdiag
 have h1:=solved mm x0 h0
 have hsol:∀ i,i<n - 1→sumQ (fun j=>a i j*x j) (n - 1)=a i (n - 1):=fun i hi=>by
  have h3:=hx i hi
  rw [sumQ_congr (n - 1) (g:=fun j=>a i j*x j) (fun j hj=>by rw [ha];unfold augQ;rw [if_pos hj])] at h3
  rw [h3,ha]
  unfold augQ
  rw [if_neg (Nat.lt_irrefl _)]
 have heq:∀ i,i<n - 1→x i=x0 i:=fun i hi=>by
  have h5:=mm.ker (fun j=>x j - x0 j) (fun r _ hr=>by
   have e1:=h1 r hr
   unfold resid at e1
   rw [sumQ_congr (n - 1) (g:=fun j=>a r j*x0 j) (fun j _=>if_pos (Nat.zero_le j))] at e1
   rw [sumQ_congr (n - 1) (g:=fun j=>a r j*x j - a r j*x0 j) (fun j _=>by rw [if_pos (Nat.zero_le j)];grind),sumQ_sub,hsol r hr]
   grind) i (Nat.zero_le _) hi
  grind
 have bd:∀ i j,(A i j).natAbs≤96:=fun i j=>by
  have:=hMat_bd n W W.length i j
  rw [hA]
  simp only
  split
  ·omega
  ·split <;> simp
 refine⟨fun c hc=>by rw [←ha];exact hpv c hc,fun c _ i j hi _=>?_,by decide,by decide,fun i hi=>?_,hxs,k2,k1⟩
 ·rw [←ha]
  rw [haA] at hpn ⊢
  exact tri_sz (n - 1) (by omega) A bd (by decide) (by decide) hpn c i j hi
 ·rw [←ha]
  have h6:=h0 i hi
  unfold resid at h6 ⊢
  rw [sumQ_congr (n - 1) (g:=fun j=>if i≤j then triQ a (n - 1) i j*x0 j else 0) (fun j hj=>by rw [heq j hj])]
  exact h6
end
end Go.Proofs.YtolkchkedieppaaGreat
namespace Go.Proofs.YtolkchkedieppaaGreat
open Go.RowKit
def rowS (N:Nat) (M:Nat→Nat→Int) (x:Nat→Rat) (i:Nat):Rat:=sumQ (fun j=>castM M i j*x j) N
theorem rowS_add (N:Nat) (M:Nat→Nat→Int) (p q:Nat) (v:Int) (x:Nat→Rat) (i:Nat) (hq:q<N):rowS N (addI M p q v) x i=rowS N M x i+(if i=p then (v:Rat)*x q else 0):=by
 unfold rowS
 by_cases e:i=p
 ·rw [if_pos e,sumQ_congr N (g:=fun j=>castM M i j*x j+(if j=q then (v:Rat)*x q else 0)) (fun j _=>by
   rw [cast_add]
   by_cases e2:j=q
   ·rw [if_pos ⟨e,e2⟩,if_pos e2,e2];grind
   ·rw [if_neg (fun h=>e2 h.2),if_neg e2];grind),sumQ_at,if_pos hq]
 ·rw [if_neg e,sumQ_congr N (g:=fun j=>castM M i j*x j) (fun j _=>by rw [cast_add,if_neg (fun h=>e h.1)];grind)]
  grind
theorem wire_row (n:Nat) (M:Nat→Nat→Int) (a b:Nat) (h2:2≤n) (ha:a<n) (hb:b<n) (x:Nat→Rat) (hx:x (n - 1)=0) (i:Nat) (hi:i<n - 1) :
  rowS (n - 1) (hStep n M a b) x i=rowS (n - 1) M x i+(if i=a then x a - x b else 0):=by
 by_cases e1:a=n - 1
 ·have s1:hStep n M a b=M:=by unfold hStep;rw [if_pos e1]
  rw [s1,if_neg (by omega)]
  grind
 ·have e3:a<n - 1:=by omega
  by_cases e2:b=n - 1
  ·have s1:hStep n M a b=addI M a a 1:=by unfold hStep;rw [if_neg e1,if_neg (by omega)]
   rw [s1,rowS_add _ _ _ _ _ _ _ e3,icast1,e2,hx]
   split <;> grind
  ·have e4:b<n - 1:=by omega
   have s1:hStep n M a b=addI (addI M a a 1) a b (-1):=by unfold hStep;rw [if_neg e1,if_pos e4]
   rw [s1,rowS_add _ _ _ _ _ _ _ e4,rowS_add _ _ _ _ _ _ _ e3,icast1,icastm]
   split <;> grind
theorem hMat_row {n:Nat} {W:List (Int × Int)} (h2:2≤n) (hok:WiresOK n W) (x:Nat→Rat) (hx:x (n - 1)=0) (i:Nat) (hi:i<n - 1):∀ k,k≤W.length→
  rowS (n - 1) (hMat n W k) x i=sumQ (fun m=>(if i=wA W m then x (wA W m) - x (wB W m) else 0)+(if i=wB W m then x (wB W m) - x (wA W m) else 0)) k
 | 0,_=>by
  unfold rowS
  rw [sumQ_eq_zero (n - 1) (fun j hj=>by show ((0:Int):Rat)*x j=0;grind)]
  rfl
 | k+1,hk=>by
  have ih:=hMat_row h2 hok x hx i hi k (by omega)
  show rowS (n - 1) (hStep n (hStep n (hMat n W k) (wA W k) (wB W k)) (wB W k) (wA W k)) x i=_
  rw [wire_row n _ _ _ h2 (hok.b (by omega)).2 (hok.a (by omega)).2 x hx i hi,wire_row n _ _ _ h2 (hok.a (by omega)).2 (hok.b (by omega)).2 x hx i hi,ih]
  simp only [sumQ]
  grind
section
variable {S J:List Tr} {W H:Nat} (h:NetP S J W H)
include h
end
end Go.Proofs.YtolkchkedieppaaGreat
