import Derived.Test.YtgmopcncbpdniaaGreatProg
import Derived.Deep.RegionHeld3
import Derived.Test.YtgmopcncbpdniaaGreatJTakes
import Derived.Test.YtgmopcncbpdniaaGreatJQDiv
import Derived.Test.YtgmopcncbpdniaaGreatJGrp2
import Derived.Test.YtgmopcncbpdniaaGreatJPlainD
import Derived.Test.YtgmopcncbpdniaaGreatJPlainR
set_option linter.unusedVariables false
set_option linter.unusedSimpArgs false
namespace Go.Proofs.YtgmopcncbpdniaaGreat
open Go
def lastAt (ops:Array Oper) (i:Nat):Bool:=
 match ops[i]? with
 | none=>false
 | some (x:Oper)=>x.after.all (fun e=>decide (e.on<i)) && (match x.guard with | none=>true | some (g,_)=>decide (g<i)) &&
   (decide (i+1=ops.size) || (List.range ops.size).any (fun j=>match ops[j]? with | some (y:Oper)=>y.after.any (fun e=>Region.binds .any e && decide (e.on=i)) | none=>false))
def lastB (ops:Array Oper):Bool:=(List.range ops.size).all (lastAt ops)
section
variable {P:Program} {pre:Array Oper} {o:Oper} {Q:Exit→Act→World→Prop}
theorem lastB_spec (h:lastB (pre.push o)=true) (i:Nat) (hi:i<pre.size+1) :
  ∃ x:Oper,(pre.push o)[i]? = some x∧(∀ e ∈ x.after,e.on<i)∧(∀ g b,x.guard=some (g,b)→g<i)∧
   (i+1=pre.size+1∨∃ (j:Nat) (y:Oper),(pre.push o)[j]? = some y∧∃ e ∈ y.after,Region.binds .any e=true∧e.on=i):=by
 unfold lastB at h
 rw [List.all_eq_true] at h
 have h1:=h i (by simpa using hi)
 unfold lastAt at h1
 split at h1
 ·cases h1
 ·rename_i x hx
  simp only [Bool.and_eq_true,Bool.or_eq_true,decide_eq_true_eq,List.any_eq_true,Array.all_eq_true_iff_forall_mem] at h1
  obtain⟨⟨h2,h3⟩,h4⟩:=h1
  refine⟨x,hx,h2,fun g b hg=>?_,?_⟩
  ·rw [hg] at h3;simpa using h3
  ·rcases h4 with h4 | ⟨j,_,h5⟩
   ·left;simpa using h4
   ·right
    split at h5
    ·rename_i y hy
     rw [Array.any_eq_true'] at h5;simp only [Bool.and_eq_true,decide_eq_true_eq] at h5
     obtain⟨e,he,h6,h7⟩:=h5
     exact⟨j,y,hy,e,he,h6,h7⟩
    ·cases h5
theorem push_get (i:Nat) (hi:i<pre.size):(pre.push o)[i]? = pre[i]?:=by
 rw [Array.getElem?_push,if_neg (by omega)]
theorem getD_push (L:Array Bool) (c d:Bool) (i:Nat) (hi:i<L.size):(L.push c).getD i d=L.getD i d:=by
 simp [Array.getD,hi,Nat.lt_succ_of_lt hi,Array.getElem_push]
theorem getD_last (L:Array Bool) (c d:Bool):(L.push c).getD L.size d=c:=by
 simp [Array.getD]
theorem getD_in (L:Array Bool) (i:Nat) (hi:i<L.size) (c d:Bool):L.getD i c=L.getD i d:=by
 simp [Array.getD,hi]
theorem getD_ne (L:Array Bool) (i k:Nat) (c d:Bool) (h:k≠i):(L.setIfInBounds i c).getD k d=L.getD k d:=by
 by_cases e:k<L.size
 ·simp [Array.getD,e,Array.getElem_setIfInBounds,Ne.symm h]
 ·simp [Array.getD,e]
theorem set_last (L:Array Bool) (n:Nat) (h:L.size=n):(L.push false).setIfInBounds n true=L.push true:=by
 apply Array.ext_getElem?
 intro k
 rw [Array.getElem?_setIfInBounds,Array.getElem?_push,Array.getElem?_push]
 by_cases e:n=k
 ·subst e;subst h;simp
 ·rw [if_neg e,if_neg (by omega),if_neg (by omega)]
theorem set_early (L:Array Bool) (i:Nat) (h:i<L.size):(L.push false).setIfInBounds i true=(L.setIfInBounds i true).push false:=by
 apply Array.ext_getElem?
 intro k
 rw [Array.getElem?_setIfInBounds,Array.getElem?_push,Array.getElem?_push,Array.getElem?_setIfInBounds]
 by_cases e:i=k
 ·subst e
  simp [h,Nat.lt_succ_of_lt h,Nat.ne_of_lt h]
 ·rw [if_neg e,if_neg e]
  simp
def ClL (pre:Array Oper) (L:Array Bool):Prop:=∀ j x,L.getD j false=true→pre[j]? = some x→∀ e ∈ x.after,Region.binds .any e=true→L.getD e.on false=true
theorem clL_set {L:Array Bool} (h:ClL pre L) {i:Nat} (hi:i ∈ Region.ready .any pre L):ClL pre (L.setIfInBounds i true):=by
 obtain⟨hu,x,hx,hall⟩:=mem_ready.1 hi
 have key:∀ k,L.getD k false=true→(L.setIfInBounds i true).getD k false=true:=fun k hk=>by
  by_cases e:k=i
  ·subst e
   have:k<L.size:=by
    refine Nat.lt_of_not_le (fun hn=>?_)
    simp [Array.getD,Nat.not_lt.2 hn] at hk
   simp [Array.getD,this]
  ·rw [getD_ne _ _ _ _ _ e];exact hk
 intro j y hj hy e he hb
 by_cases ej:j=i
 ·subst ej
  rw [hx] at hy
  injection hy with hy
  subst hy
  exact key _ (hall e he hb)
 ·rw [getD_ne _ _ _ _ _ ej] at hj
  exact key _ (h j y hj hy e he hb)
theorem ready_push (hB:lastB (pre.push o)=true) {L:Array Bool} (hL:L.size=pre.size) (c:Bool) (i:Nat) (hi:i<pre.size):i ∈ Region.ready .any (pre.push o) (L.push c)↔i ∈ Region.ready .any pre L:=by
 obtain⟨x,hx,h1,-,-⟩:=lastB_spec hB i (by omega)
 rw [mem_ready,mem_ready,getD_push L c true i (by omega),push_get i hi]
 rw [push_get i hi] at hx
 constructor
 ·rintro ⟨a,y,hy,h⟩
  refine⟨a,y,hy,fun e he hb=>?_⟩
  rw [hx] at hy;injection hy with hy;subst hy
  have:=h1 e he
  rw [←getD_push L c false e.on (by omega)];exact h e he hb
 ·rintro ⟨a,y,hy,h⟩
  refine⟨a,y,hy,fun e he hb=>?_⟩
  rw [hx] at hy;injection hy with hy;subst hy
  have:=h1 e he
  rw [getD_push L c false e.on (by omega)];exact h e he hb
theorem last_not (hB:lastB (pre.push o)=true) {L:Array Bool} (hL:L.size=pre.size) (hC:ClL pre L) (hn:pre.size ∈ Region.ready .any (pre.push o) (L.push false)):∀ d i,i+d+1=pre.size→L.getD i false=true:=by
 obtain⟨-,x,hx,hall⟩:=mem_ready.1 hn
 intro d
 induction d using Nat.strongRecOn with
 | ind d ih=>
  intro i hi
  obtain⟨y,hy,-,-,h4⟩:=lastB_spec hB i (by omega)
  rcases h4 with h4 | ⟨j,z,hz,e,he,hb,hei⟩
  ·omega
  ·have hjs:j<pre.size+1:=by
    have:=(Array.getElem?_eq_some_iff.1 hz).1
    simpa using this
   obtain⟨z',hz',h5,-,-⟩:=lastB_spec hB j hjs
   rw [hz] at hz';injection hz' with hz';subst hz'
   have hij:=h5 e he
   rw [hei] at hij
   by_cases ej:j=pre.size
   ·subst ej
    rw [hx] at hz;injection hz with hz;subst hz
    have:=hall e he hb
    rw [hei,getD_push L false false i (by omega)] at this
    exact this
   ·have hjl:=ih (pre.size - j - 1) (by omega) j (by omega)
    rw [push_get j (by omega)] at hz
    have:=hC j z hjl hz e he hb
    rw [hei] at this;exact this
theorem none_left (hB:lastB (pre.push o)=true) {L:Array Bool} (hL:L.size=pre.size) (hr:Region.ready .any pre L = []):∀ i,i<pre.size→L.getD i false=true:=by
 intro i
 induction i using Nat.strongRecOn with
 | ind i ih=>
  intro hi
  obtain⟨x,hx,h1,-,-⟩:=lastB_spec hB i (by omega)
  rw [push_get i hi] at hx
  rcases hl:L.getD i false with _ | _
  ·have:i ∈ Region.ready .any pre L:=mem_ready.2 ⟨by rw [getD_in L i (by omega) true false];exact hl,x,hx,fun e he hb=>ih e.on (h1 e he) (by have:=h1 e he;omega)⟩
   rw [hr] at this
   cases this
  ·rfl
theorem all_then (hB:lastB (pre.push o)=true) {L:Array Bool} (hL:L.size=pre.size) (hall:∀ i,i<pre.size→L.getD i false=true) :
  (∀ j,j ∈ Region.ready .any (pre.push o) (L.push false)↔j=pre.size)∧Region.ready .any (pre.push o) (L.push true) = []:=by
 refine⟨fun j=>⟨fun hj=>?_,fun hj=>?_⟩,?_⟩
 ·obtain⟨hu,x,hx,_⟩:=mem_ready.1 hj
  have hjs:j<pre.size+1:=by simpa using (Array.getElem?_eq_some_iff.1 hx).1
  by_cases e:j=pre.size
  ·exact e
  ·have h1:=hall j (by omega)
   rw [getD_push L false true j (by omega),getD_in L j (by omega) true false,h1] at hu
   cases hu
 ·subst hj
  obtain⟨x,hx,h1,-,-⟩:=lastB_spec hB pre.size (by omega)
  refine mem_ready.2 ⟨by rw [←hL,getD_last],x,hx,fun e he hb=>?_⟩
  have:=h1 e he
  rw [getD_push L false false e.on (by omega)]
  exact hall _ this
 ·refine List.eq_nil_iff_forall_not_mem.2 (fun j hj=>?_)
  obtain⟨hu,x,hx,_⟩:=mem_ready.1 hj
  have hjs:j<pre.size+1:=by simpa using (Array.getElem?_eq_some_iff.1 hx).1
  by_cases e:j=pre.size
  ·subst e
   rw [←hL,getD_last] at hu
   cases hu
  ·have h1:=hall j (by omega)
   rw [getD_push L true true j (by omega),getD_in L j (by omega) true false,h1] at hu
   cases hu
def LastQ (P:Program) (ops:Array Oper) (n:Nat) (Q:Exit→Act→World→Prop):Exit→Act→World→Prop:=Exit.then (wpOp P ops Q n (Q .normal)) Q
theorem letsOut_last {ops:Array Oper} {n:Nat} (h:LetsOut (LastQ P ops n Q)):LetsOut Q:=h
theorem oper_last {x:Oper} {ops:Array Oper} {n:Nat} {K:Act→World→Prop} {a:Act} {w:World} (h:x.wp P a w K (LastQ P ops n Q)):x.wp P a w K Q:=by
 unfold Oper.wp at *
 generalize (execOp a.eval x).run P w=r at *
 cases r with
 | ok m w'=>cases m <;> exact h
 | halt e w'=>cases e <;> exact h
theorem yielded_push (a:Act) (g:Nat) (hg:g<pre.size):yielded (pre.push o) a.tmps g=yielded pre a.tmps g:=by
 unfold yielded;rw [push_get g hg]
theorem wanted_push {x:Oper} (a:Act) (hg:∀ g b,x.guard=some (g,b)→g<pre.size):Region.wanted x (yielded (pre.push o) a.tmps)=Region.wanted x (yielded pre a.tmps):=by
 unfold Region.wanted
 split
 ·rfl
 ·rename_i g b e
  rw [yielded_push a g (hg g b e)]
theorem wpOp_last (hB:lastB (pre.push o)=true) {ops:Array Oper} {n i:Nat} (hi:i<pre.size) {K K':Act→World→Prop} (hK:∀ a w,K a w→K' a w) {a:Act} {w:World} (h:wpOp P pre (LastQ P ops n Q) i K a w):wpOp P (pre.push o) Q i K' a w:=by
 obtain⟨x,hx,-,h3,-⟩:=lastB_spec hB i (by omega)
 have hx':=hx
 rw [push_get i hi] at hx'
 unfold wpOp at *
 rw [hx]
 rw [hx'] at h
 simp only at h ⊢
 rw [wanted_push a (fun g b e=>Nat.lt_trans (h3 g b e) hi)]
 split
 ·rename_i hw
  rw [if_pos hw] at h
  rcases h with h | ⟨h1,h2⟩
  ·exact .inl (oper_last (Oper.wp_mono hK h))
  ·exact .inr ⟨h1,letsOut_last h2⟩
 ·rename_i hw
  rw [if_neg hw] at h
  exact hK _ _ h
theorem wpAny_last (hB:lastB (pre.push o)=true):∀ (fuel:Nat) (L:Array Bool) (a:Act) (w:World),L.size=pre.size→ClL pre L→
  wpAny P .any pre (LastQ P (pre.push o) pre.size Q) fuel L a w→wpAny P .any (pre.push o) Q (fuel+1) (L.push false) a w:=by
 have fin:∀ (fuel:Nat) (L:Array Bool) (a:Act) (w:World),L.size=pre.size→Region.ready .any pre L = []→LastQ P (pre.push o) pre.size Q .normal a w→wpAny P .any (pre.push o) Q (fuel+1) (L.push false) a w:=by
  intro fuel L a w hL hr hq
  obtain⟨g1,g2⟩:=all_then hB hL (none_left hB hL hr)
  refine⟨fun h=>?_,fun i hi=>?_⟩
  ·have:=(g1 pre.size).2 rfl
   rw [h] at this;cases this
  ·have e:=(g1 i).1 hi
   subst e
   have hs:=set_last L pre.size hL
   rw [hs]
   refine wpOp_mono (fun a w h=>?_) (show wpOp P (pre.push o) Q pre.size (Q .normal) a w from hq)
   cases fuel with
   | zero=>exact⟨g2,h⟩
   | succ f=>exact⟨fun _=>h,fun i hi=>by rw [g2] at hi;cases hi⟩
 intro fuel
 induction fuel with
 | zero=>intro L a w hL hC h;exact fin 0 L a w hL h.1 h.2
 | succ fuel ih=>
  intro L a w hL hC h
  by_cases hr:Region.ready .any pre L = []
  ·exact fin (fuel+1) L a w hL hr (h.1 hr)
  ·refine⟨fun h2=>?_,fun i hi=>?_⟩
   ·obtain⟨j,hj⟩:=List.exists_mem_of_ne_nil _ hr
    have hjs:j<pre.size:=by
     obtain⟨_,x,hx,_⟩:=mem_ready.1 hj
     exact (Array.getElem?_eq_some_iff.1 hx).1
    have:=(ready_push hB hL false j hjs).2 hj
    rw [h2] at this;cases this
   ·have his:i<pre.size:=by
     obtain⟨_,x,hx,_⟩:=mem_ready.1 hi
     have hjs:i<pre.size+1:=by simpa using (Array.getElem?_eq_some_iff.1 hx).1
     refine Nat.lt_of_le_of_ne (by omega) (fun e=>?_)
     subst e
     have hall:=last_not hB hL hC hi
     refine hr (List.eq_nil_iff_forall_not_mem.2 (fun j hj=>?_))
     obtain⟨hu,y,hy,_⟩:=mem_ready.1 hj
     have hjs:j<pre.size:=(Array.getElem?_eq_some_iff.1 hy).1
     have h1:=hall (pre.size - j - 1) j (by omega)
     rw [getD_in L j (by omega) true false,h1] at hu
     cases hu
    have hi':=(ready_push hB hL false i his).1 hi
    have hs:=set_early L i (by omega)
    rw [hs]
    exact wpOp_last hB his (fun a w h3=>ih _ _ _ (by simpa using hL) (clL_set hC hi') h3) (h.2 i hi')
theorem wp_region_last {ops:Array Oper} {S:World→Prop} {id:Nat} {a:Act} {w:World} (hm:P.follows .mixedOrders=true) (hB:(decide (0<ops.size) && lastB ops)=true) (hS:S w.drew)
  (h:S w.drew→wpAnyH P .any ops.pop (LastQ P ops ops.pop.size Q) S ops.pop.size (Array.replicate ops.pop.size false) a w.drew):(Code.region id ops true).wp P Q a w:=by
 rw [Bool.and_eq_true,decide_eq_true_eq] at hB
 obtain⟨h0,hB⟩:=hB
 obtain⟨pre,o,rfl⟩:∃ pre o,ops=Array.push pre o:=Array.eq_push_of_size_ne_zero (by omega)
 rw [Array.pop_push] at h
 refine wp_region_any hm ?_
 have h1:=wpAny_last hB pre.size (Array.replicate pre.size false) a w.drew (by simp) (fun j x hj=>by
  exfalso
  simp [Array.getD] at hj) (wpAny_of_held _ _ _ _ (h hS))
 have e:(Array.replicate pre.size false).push false=Array.replicate (pre.push o).size false:=by simp [Array.replicate_succ]
 rw [e] at h1
 simpa using h1
theorem lastQ_step {n:Nat} {ops:Array Oper} {x:Oper} {a:Act} {w:World} (ho:ops[n]? = some x)
  (h:∀ K:Act→World→Prop,Shut (∀ a w,Q .normal a w→K a w)→if Region.wanted x (yielded ops a.tmps)=true then Oper.wp P x a w K Q else K (a.put x.dst undef) w):LastQ P ops n Q .normal a w:=
 wpOp_step ho (fun K' hK=>h K' (fun a w hq=>hK a w hq))
end
end Go.Proofs.YtgmopcncbpdniaaGreat
namespace Go.Proofs.YtgmopcncbpdniaaGreat
open Go.RowKit
attribute [local go_sem ↓] Go.wp_at_zero Go.wp_at_succ
theorem zqs_s:Tryz.prog.underlying 32=some (.slice (Tryz.prog.elem 32)):=by kernel_rfl
theorem zqs_z (W:World):(sizeOf (Tryz.prog.elem 32)).run Tryz.prog W = .ok 4 W:=by kernel_rfl
theorem ixV (b n c i:Nat) (hi:i<n) (W:World) :
  (Instr.indexAt 32 (.slice (some ⟨b,0,none⟩) n c) (.int .i64 (i:Int))).run Tryz.prog W = .ok (.pointer (some ⟨b,i*4,none⟩)) W:=by
 rw [run_indexAt_slice W _ _ _ _ _ _ zqs_s,if_pos ⟨by omega,by omega⟩,zqs_z]
 simp only [Result.andThen,Int.toNat_natCast]
 congr 3
 unfold Addr.add
 split
 ·rename_i h;simp [show i=0 by omega]
 ·simp
theorem IsSl.ints {w:World} {a:Option Addr} {b o c n:Nat} {f:Nat→Int} (h:IsSl w a b o c n (ic f)):Ints w (.slice a n c) n f:=⟨a,b,o,c,rfl,h⟩
theorem sumF_mem {f:Nat→Int} (h:∀ i,0≤f i):∀ n i,i<n→f i≤sumF f n
 | 0,i,hi=>by omega
 | n+1,i,hi=>by
  simp only [sumF]
  by_cases e:i=n
  ·subst e;have:=sumF_nn h i;omega
  ·have:=sumF_mem h n i (by omega);have:=h n;omega
theorem shQ_div {n:Nat} {d:Nat→Nat→Int} {j i:Nat} (h:sumF (d j) n≠0):shQ n d j i=(d j i:Rat) / (sumF (d j) n:Rat):=by unfold shQ shareQ;rw [if_neg h]
theorem shQ_none {n:Nat} {d:Nat→Nat→Int} {j i:Nat} (h:d j i=0):shQ n d j i=0:=by
 unfold shQ shareQ;split
 ·rfl
 ·rw [h,Rat.div_def];simp
theorem ZIs.at4 {w:World} {v:Value} {z:Int} {m b:Nat} {s t:Bool} {a a2:Option Addr} {n c n2 c2:Nat} (h:ZIs w v z m) (O:Own4 w b (.bool s) (.slice a n c) (.bool t) (.slice a2 n2 c2)) (u0 u1 u2 u3:Value) :
  ZIs ((((w.setCell ⟨b,0,none⟩ u0).setCell ⟨b,1,none⟩ u1).setCell ⟨b,2,none⟩ u2).setCell ⟨b,3,none⟩ u3) v z m:=
 (((h.setCell u0 O.c0 (noInt_bool _)).setCell u1 (off_set (by decide) O.c1) (noInt_slice _ _ _)).setCell u2 (off_set (by decide) (off_set (by decide) O.c2)) (noInt_bool _)).setCell u3 (off_set (by decide) (off_set (by decide) (off_set (by decide) O.c3))) (noInt_slice _ _ _)
theorem QIs.at4 {w:World} {v:Value} {p d:Int} {m b:Nat} {s t:Bool} {a a2:Option Addr} {n c n2 c2:Nat} (h:QIs w v p d m) (O:Own4 w b (.bool s) (.slice a n c) (.bool t) (.slice a2 n2 c2)) (u0 u1 u2 u3:Value) :
  QIs ((((w.setCell ⟨b,0,none⟩ u0).setCell ⟨b,1,none⟩ u1).setCell ⟨b,2,none⟩ u2).setCell ⟨b,3,none⟩ u3) v p d m:=by
 obtain⟨s1,v1,s2,v2,h0,h1,h2,h3⟩:=h
 exact⟨s1,v1,s2,v2,h0,h1.at4 O _ _ _ _,h2.at4 O _ _ _ _,h3⟩
theorem QV.at4 {w:World} {v:Value} {q:Rat} {m b:Nat} {s t:Bool} {a a2:Option Addr} {n c n2 c2:Nat} (h:QV w v q m) (O:Own4 w b (.bool s) (.slice a n c) (.bool t) (.slice a2 n2 c2)) (u0 u1 u2 u3:Value) :
  QV ((((w.setCell ⟨b,0,none⟩ u0).setCell ⟨b,1,none⟩ u1).setCell ⟨b,2,none⟩ u2).setCell ⟨b,3,none⟩ u3) v q m:=by
 obtain⟨p,d,h1,h2⟩:=h
 exact⟨p,d,h1.at4 O _ _ _ _,h2⟩
set_option maxHeartbeats 4000000 in
set_option maxRecDepth 100000 in
theorem recv_any (vd vp:Value) (n i:Nat) (d:Nat→Nat→Int) (q:Nat→Rat) (K:Nat) (w:World) (hm:Mat w vd n (fun _=>n) d) (hp:VSl w vp n q K) (hi:i<n) (hn:n≤8) (hd:∀ i j,0≤d i j) (hR:∀ i j,i<n→j<n→d i j≤1000) (hT:∀ i,i<n→sumF (d i) n≤100000) (hK5:5≤K) (hK:K≤100000000) :
  Calls Tryz.prog 19 #[vd,vp,.int .i64 (i:Nat)] w fun ex w'=>∃ r,ex = .returned r∧QIs w' r (sumQ (fun j=>q j*shQ n d j i) n).num (((sumQ (fun j=>q j*shQ n d j i) n).den:Nat):Int) (512*(K+1))∧Below w.heap.size w w':=by
 obtain⟨da,b,o,dc,ra,rb,ro,rc,rfl,hdm⟩:=hm
 obtain⟨g,gc,rfl,hgc,hgl,hgv⟩:=hp.val
 have HM:=Lib.hid hdm
 have HV:=Lib.hid hgv
 have HD0:=Lib.hid hd
 have HR0:=Lib.hid hR
 have HT0:=Lib.hid hT
 have HGL:=Lib.hid hgl
 clear hdm hgv hd hR hT hp hgl
 have KW0:=Lib.hid (boxes1 w (.cells #[.bool false,.slice none 0 0,.bool false,.slice none 0 0] 40))
 have RO0:=Lib.hid (own4_new w w.heap.size rfl (.bool false) (.slice none 0 0) (.bool false) (.slice none 0 0) 40)
 go_enter Tryz.func19,Tryz.ntmps19
 go_wp2_with fail
 refine (qv_whole 0 _ (by omega) (by omega)).mono ?_
 rintro e w1 ⟨r1,rfl,hr1,hb1⟩
 obtain⟨s1,a1,n1,c1,t1,a2,n2,c2,rfl,Q1⟩:=hr1.shape
 have hbx:=boxes1 w1 (.cells #[.bool s1,.slice a1 n1 c1,.bool t1,.slice a2 n2 c2] 40)
 have RO0:=Lib.hid ((RO0.out.below hb1 RO0.out.lt).alloc (.cells #[.bool s1,.slice a1 n1 c1,.bool t1,.slice a2 n2 c2] 40))
 have KW0:=Lib.hid ((KW0.out.trans (hb1.mono KW0.out.size)).alloc (KW0.out.trans (hb1.mono KW0.out.size)).size (.cells #[.bool s1,.slice a1 n1 c1,.bool t1,.slice a2 n2 c2] 40))
 have PS0:=Lib.hid (own4_new w1 w1.heap.size rfl (.bool s1) (.slice a1 n1 c1) (.bool t1) (.slice a2 n2 c2) 40)
 have QS0:=Lib.hid (Q1.out.mono hbx (Nat.le_refl _))
 have HSB:Hid (w.heap.size<w1.heap.size):=Lib.hid (by have:=hb1.size;simp at this;omega)
 obtain⟨SB,hSB⟩:∃ SB,SB=w1.heap.size:=⟨_,rfl⟩
 clear hr1 hb1 hbx Q1
 go_wp2
 rw [←hSB] at PS0 HSB ⊢
 clear hSB
 generalize w1.alloc (.cells #[.bool s1,.slice a1 n1 c1,.bool t1,.slice a2 n2 c2] 40)=w2 at *
 go_loopw [8] (fun v8 wr=>∃ k:Nat,k≤n∧v8 = .int .i64 (k:Nat)∧∃ s a m c t a2 m2 c2 B,Hid (Own4 wr SB (.bool s) (.slice a m c) (.bool t) (.slice a2 m2 c2))∧Hid (QV wr (.agg #[.bool s,.slice a m c,.bool t,.slice a2 m2 c2]) (sumQ (fun j=>q j*shQ n d j i) k) B)∧Hid (B+1=2 ^ k*(2*K+1))∧
  Hid (Own4 wr w.heap.size (.bool false) (.slice none 0 0) (.bool false) (.slice none 0 0))∧Hid (Below w.heap.size w wr)) (fun v8 _=>n - (intOf v8).toNat)
 case atStart=>exact⟨0,by omega,rfl,s1,a1,n1,c1,t1,a2,n2,c2,2*K,PS0,Lib.hid (QS0.out.le (by omega)),Lib.hid (by omega),RO0,KW0⟩
 case round=>
  clear PS0 QS0 RO0 KW0
  obtain⟨k,hk,rfl,s,a,m,c,t,a2,m2,c2,B,PS,QS,HB,RO,KW0⟩:=hrel
  by_cases h:k<n
  ·have e1:decide ((k:Int)<(n:Int))=true:=by simpa using h
   have e1n:decide (k<n)=true:=by simpa using h
   have ixm:=fun W=>ixM HM.out.top k dc h W
   have ixr:=fun W=>ixI (HM.out.row k h) i (rc k) hi W
   have ixp:=fun W=>ixV g n gc k h W
   have hM1:=HM.out.mono KW0.out (Nat.le_refl _)
   have y0:=hM1.top.cell k h
   have y1:=(hM1.row k h).cell i hi
   simp only [ic] at y1
   clear hM1
   by_cases hz:0<d k i
   ·have d1:decide (0<d k i)=true:=by simpa using hz
    obtain⟨s5,a5,n5,c5,t5,a6,n6,c6,z0,z1,z2,z3,zq⟩:=HV.out k h
    have HQ5:=Lib.hid (QV.mono zq KW0.out (Nat.le_refl _))
    have HMT:=sumF_mem (HD0.out k) n i hi
    have HNZ:Hid (sumF (d k) n≠0):=Lib.hid (by omega)
    have HR1:Hid (-9223372036854775808≤d k i∧d k i<9223372036854775808):=Lib.hid (by have:=HR0.out k i h hi;omega)
    have HR2:Hid (-9223372036854775808≤sumF (d k) n∧sumF (d k) n<9223372036854775808):=Lib.hid (by have:=HT0.out k h;omega)
    have HDT:Hid (∀ l,l<n→-(1099511627776:Int)≤d k l∧d k l≤1099511627776):=Lib.hid (fun l hl=>by have:=HR0.out k l h hl;have:=HD0.out k l;omega)
    have HB2:Hid (2*K≤B∧B≤274877906940):=Lib.hid (by
     have h1:2 ^ k≤2 ^ 8:=Nat.pow_le_pow_right (by omega) (by omega)
     have h2:1≤2 ^ k:=Nat.one_le_two_pow
     have h3:=Nat.mul_le_mul_right (2*K+1) h1
     have h4:=Nat.mul_le_mul_right (2*K+1) h2
     have:=HB.out
     omega)
    have HSUM:Hid (sumQ (fun j=>q j*shQ n d j i) k+q k*((d k i:Rat) / (sumF (d k) n:Rat))=sumQ (fun j=>q j*shQ n d j i) (k+1)):=Lib.hid (by simp only [sumQ];rw [shQ_div HNZ.out])
    have VL0:=Lib.hid (Below.refl wr.heap.size wr)
    have VL:=Lib.hid VL0.out.drew
    have keepR:Hid (∀ w',Below wr.heap.size wr w'→w'.cell? ⟨SB,0,none⟩=some (.bool s)∧w'.cell? ⟨SB,1,none⟩=some (.slice a m c)∧w'.cell? ⟨SB,2,none⟩=some (.bool t)∧w'.cell? ⟨SB,3,none⟩=some (.slice a2 m2 c2)∧w'.cell? ⟨g,k*4,none⟩=some (.bool s5)∧w'.cell? ⟨g,k*4+1,none⟩=some (.slice a5 n5 c5)∧w'.cell? ⟨g,k*4+2,none⟩=some (.bool t5)∧w'.cell? ⟨g,k*4+3,none⟩=some (.slice a6 n6 c6)∧w'.cell? ⟨b,o+k,none⟩=some (.slice (ra k) n (rc k))∧w'.cell? ⟨rb k,ro k+i,none⟩=some (.int .i64 (d k i))):=
     Lib.hid (fun w' hb=>⟨bel1 hb PS.out.c0 PS.out.lt,bel1 hb PS.out.c1 PS.out.lt,bel1 hb PS.out.c2 PS.out.lt,bel1 hb PS.out.c3 PS.out.lt,
      bel1 hb (bel1 KW0.out z0 HGL.out) (Nat.lt_of_lt_of_le HGL.out KW0.out.size),bel1 hb (bel1 KW0.out z1 HGL.out) (Nat.lt_of_lt_of_le HGL.out KW0.out.size),bel1 hb (bel1 KW0.out z2 HGL.out) (Nat.lt_of_lt_of_le HGL.out KW0.out.size),bel1 hb (bel1 KW0.out z3 HGL.out) (Nat.lt_of_lt_of_le HGL.out KW0.out.size),
      bel1 hb y0 (Nat.lt_of_lt_of_le (HM.out.top.lt (by omega)) KW0.out.size),bel1 hb y1 (Nat.lt_of_lt_of_le ((HM.out.row k h).lt (by omega)) KW0.out.size)⟩)
    clear zq z0 z1 z2 z3 HMT
    go_wp2
    clear y0 y1
    refine wp_region_last (S:=fun w'=>w'.cell? ⟨SB,0,none⟩=some (.bool s)∧w'.cell? ⟨SB,1,none⟩=some (.slice a m c)∧w'.cell? ⟨SB,2,none⟩=some (.bool t)∧w'.cell? ⟨SB,3,none⟩=some (.slice a2 m2 c2)∧w'.cell? ⟨g,k*4,none⟩=some (.bool s5)∧w'.cell? ⟨g,k*4+1,none⟩=some (.slice a5 n5 c5)∧w'.cell? ⟨g,k*4+2,none⟩=some (.bool t5)∧w'.cell? ⟨g,k*4+3,none⟩=some (.slice a6 n6 c6)∧w'.cell? ⟨b,o+k,none⟩=some (.slice (ra k) n (rc k))∧w'.cell? ⟨rb k,ro k+i,none⟩=some (.int .i64 (d k i))) (by kernel_rfl) (by kernel_rfl) (keepR.out _ VL.out) (fun hHeld=>?_)
    simp only [List.pop_toArray,List.dropLast_cons_cons,List.dropLast_singleton]
    refine wtk_begin [0,1,2,3,4,5,6,7,8,9,10,11,12,13,14,15] ?_
    iterate 16 (refine wtk (v:=?_) rfl (by kernel_rfl) (fun _ _ _ h=>h) (by kernel_rfl) ?_ (by assumption) ?_;rotate_left;(focus intro w0 hSw;(try dsimp only at hSw);go_simp;all_goals (with_reducible rfl));simp only [Act.put,List.setIfInBounds_toArray,List.set_cons_zero,List.set_cons_succ])
    refine wtk_end ?_
    refine wpAnyH_ready (rs:=[16]) (by kernel_rfl) (by simp) ?_
    refine AllReadyH.cons rfl (fun Kn hKn=>?_) AllReadyH.nil
    go_simp
    (go_at_call 17;(with_reducible refine (total_any _ n (d k) _ ((HM.out.row k h).ints.mono (KW0.out.trans (VL.out.mono KW0.out.size)) (Nat.le_refl _)) (by omega) HDT.out).mono ?_);rintro e w3 ⟨rfl,hd3⟩;have VL:=Lib.hid (VL.out.trans ((hd3.below _).mono VL.out.size)))
    go_wp2_with fail
    refine hKn.out _ _ ?_ (fun hHeld=>?_)
    ·(try dsimp only);exact keepR.out _ VL.out
    clear hKn Kn
    (try simp only [Act.put,List.setIfInBounds_toArray,List.set_cons_zero,List.set_cons_succ])
    refine wpAnyH_ready (rs:=[17]) (by kernel_rfl) (by simp) ?_
    refine AllReadyH.cons rfl (fun Kn hKn=>?_) AllReadyH.nil
    go_simp
    (go_at_call 49;(with_reducible refine (make_any (d k i) (sumF (d k) n) _ HR1.out.1 HR1.out.2 HR2.out.1 HR2.out.2 HNZ.out).mono ?_);rintro e w4 ⟨r4,rfl,hr4,hb4⟩;obtain⟨s4,a4,n4,c4,t4,a7,n7,c7,rfl,QM⟩:=(QV.of hr4).shape;clear hr4;have VL:=Lib.hid (VL.out.trans (hb4.mono VL.out.size)))
    go_wp2_with fail
    refine hKn.out _ _ ?_ (fun hHeld=>?_)
    ·(try dsimp only);exact keepR.out _ VL.out
    clear hKn Kn
    (try simp only [Act.put,List.setIfInBounds_toArray,List.set_cons_zero,List.set_cons_succ])
    refine wpAnyH_ready (rs:=[18]) (by kernel_rfl) (by simp) ?_
    refine AllReadyH.cons rfl (fun Kn hKn=>?_) AllReadyH.nil
    go_simp
    (go_at_call 48;(with_reducible refine (qv_mul _ _ (q k) ((d k i:Rat) / (sumF (d k) n:Rat)) K _ (HQ5.out.mono VL.out (Nat.le_refl _)) (QM.out.le hK5) (by omega)).mono ?_);rintro e w5 ⟨r5,rfl,hr5,hb5⟩;obtain⟨s8,a8,n8,c8,t8,a9,n9,c9,rfl,QP⟩:=hr5.shape;clear hr5;have VL:=Lib.hid (VL.out.trans (hb5.mono VL.out.size)))
    go_wp2_with fail
    refine hKn.out _ _ ?_ (fun hHeld=>?_)
    ·(try dsimp only);exact keepR.out _ VL.out
    clear hKn Kn
    (try simp only [Act.put,List.setIfInBounds_toArray,List.set_cons_zero,List.set_cons_succ])
    refine wpAnyH_ready (rs:=[19]) (by kernel_rfl) (by simp) ?_
    refine AllReadyH.cons rfl (fun Kn hKn=>?_) AllReadyH.nil
    go_simp
    (go_at_call 18;(with_reducible refine (qv_add _ _ (sumQ (fun j=>q j*shQ n d j i) k) (q k*((d k i:Rat) / (sumF (d k) n:Rat))) B _ (QS.out.mono VL.out (Nat.le_refl _)) (QP.out.le HB2.out.1) HB2.out.2).mono ?_);rintro e w6 ⟨r6,rfl,hr6,hb6⟩;obtain⟨x1,y1,z1,u1,x2,y2,z2,u2,rfl,QA⟩:=hr6.shape;clear hr6;have VL:=Lib.hid (VL.out.trans (hb6.mono VL.out.size));have P6:=Lib.hid (PS.out.below VL.out PS.out.lt);have p0:=P6.out.c0;have p1:=P6.out.c1;have p2:=P6.out.c2;have p3:=P6.out.c3;have pf:=P6.out.f;have pl:=P6.out.lt)
    go_wp2_with fail
    refine hKn.out _ _ ?_ (fun hHeld=>?_)
    ·(try dsimp only);exact keepR.out _ VL.out
    clear hKn Kn
    (try simp only [Act.put,List.setIfInBounds_toArray,List.set_cons_zero,List.set_cons_succ])
    refine wpAnyH_done (by kernel_rfl) ?_ _
    refine lastQ_step rfl (fun Kn hKn=>?_)
    go_simp
    refine hKn.out _ _ ?_
    clear hKn Kn
    (try simp only [Act.put,List.setIfInBounds_toArray,List.set_cons_zero,List.set_cons_succ])
    have QA2:=Lib.hid (QA.out.at4 P6.out (.bool x1) (.slice y1 z1 u1) (.bool x2) (.slice y2 z2 u2))
    rw [HSUM.out] at QA2
    have PA2:=Lib.hid (P6.out.anew (.bool x1) (.slice y1 z1 u1) (.bool x2) (.slice y2 z2 u2))
    have RO2:=Lib.hid ((RO.out.below VL.out RO.out.lt).set4 SB (.bool x1) (.slice y1 z1 u1) (.bool x2) (.slice y2 z2 u2) (by have:=HSB.out;omega))
    have KW2:=Lib.hid (below_set4q (KW0.out.trans (VL.out.mono KW0.out.size)) (b:=SB) (by have:=HSB.out;omega) (.bool x1) (.slice y1 z1 u1) (.bool x2) (.slice y2 z2 u2))
    clear p0 p1 p2 p3 pf pl
    go_wp2
    go_roundw
    case rel=>exact⟨k+1,by omega,by go_num,_,_,_,_,_,_,_,_,2*B+1,PA2,QA2,Lib.hid (by have:=HB.out;rw [Nat.pow_succ,Nat.mul_comm (2 ^ k) 2,Nat.mul_assoc];omega),RO2,KW2⟩
    case measure=>simp [intOf];omega
   ·have d1:decide (0<d k i)=false:=by simpa using hz
    have hz0:d k i=0:=by have:=HD0.out k i;omega
    have HSUM:Hid (sumQ (fun j=>q j*shQ n d j i) k=sumQ (fun j=>q j*shQ n d j i) (k+1)):=Lib.hid (by simp only [sumQ];rw [shQ_none hz0,Rat.mul_zero,Rat.add_zero])
    have HB2:Hid (B≤2*B+1):=Lib.hid (by omega)
    have QA2:=Lib.hid (QS.out.le HB2.out)
    rw [HSUM.out] at QA2
    clear hz0
    go_wp2
    go_roundw
    case rel=>exact⟨k+1,by omega,by go_num,_,_,_,_,_,_,_,_,2*B+1,PS,QA2,Lib.hid (by have:=HB.out;rw [Nat.pow_succ,Nat.mul_comm (2 ^ k) 2,Nat.mul_assoc];omega),RO,KW0⟩
    case measure=>simp [intOf];omega
  ·obtain rfl:n=k:=by omega
   have e1:decide ((n:Int)<(n:Int))=false:=by simp
   have HB2:Hid (B≤512*(K+1)∧B≤274877906940):=Lib.hid (by
    have h1:2 ^ n≤2 ^ 8:=Nat.pow_le_pow_right (by omega) (by omega)
    have h3:=Nat.mul_le_mul_right (2*K+1) h1
    have:=HB.out
    omega)
   obtain⟨x0,x1,x2,x3,xf,xl⟩:=PS.out
   go_wp2_with fail
   refine (qv_low _ _ B _ QS.out HB2.out.2).mono ?_
   rintro e w3 ⟨r3,rfl,hr3,hb3⟩
   obtain⟨s3,a3,n3,c3,t3,a4,n4,c4,rfl,-,-,-⟩:=hr3.shape
   have HR3:=Lib.hid (hr3.le HB2.out.1)
   have RO:=Lib.hid (RO.out.below hb3 RO.out.lt)
   have KW0:=Lib.hid (KW0.out.trans (hb3.mono KW0.out.size))
   clear x0 x1 x2 x3 xf xl hb3 hr3
   obtain⟨x0,x1,x2,x3,xf,xl⟩:=RO.out
   go_wp2_with fail
   refine bodyPost_ret (v:=.agg #[.bool s3,.slice a3 n3 c3,.bool t3,.slice a4 n4 c4]) (by simp [results,Tryz.results19,go_sem,x0,x1,x2,x3,xf,xl]) rfl ?_
   exact⟨_,rfl,HR3.out.at4 RO.out _ _ _ _,below_set4q KW0.out (by omega) _ _ _ _⟩
end Go.Proofs.YtgmopcncbpdniaaGreat
namespace Go.Proofs.YtgmopcncbpdniaaGreat
open Go.RowKit
attribute [local go_sem ↓] Go.wp_at_zero Go.wp_at_succ
theorem bytes_loop (bs:ByteArray):∀ (n i:Nat) (r:List UInt8),bs.size - i=n→ByteArray.toList.loop bs i r=r.reverse ++ bs.data.toList.drop i:=by
 intro n
 induction n with
 | zero=>
  intro i r h
  unfold ByteArray.toList.loop
  have:¬ i<bs.size:=by omega
  rw [if_neg this]
  have:bs.data.toList.drop i = []:=by
   apply List.drop_eq_nil_of_le
   have h2:bs.data.toList.length=bs.size:=rfl
   omega
  rw [this];simp
 | succ n ih=>
  intro i r h
  unfold ByteArray.toList.loop
  have hi:i<bs.size:=by omega
  rw [if_pos hi,ih (i+1) _ (by omega)]
  have h2:i<bs.data.toList.length:=hi
  rw [List.drop_eq_getElem_cons h2]
  simp
  show bs.get! i=_
  unfold ByteArray.get!
  exact getElem!_pos bs.data i hi
theorem bytes_list (s:ByteArray):s.toList=s.data.toList:=by
 unfold ByteArray.toList
 rw [bytes_loop s _ 0 [] rfl];simp
theorem Len10.uniq {x L M:Nat} (h:Len10 x L) (h':Len10 x M):L=M:=by
 rcases Nat.eq_zero_or_pos x with e | e
 ·rw [h.zero e,h'.zero e]
 ·obtain⟨a1,a2⟩:=h.ge e
  obtain⟨b1,b2⟩:=h'.ge e
  have key:∀ {L M:Nat},10 ^ (L - 1)≤x→x<10 ^ M→0<L→L≤M:=fun h1 h2 h3=>by
   have h4:=(Nat.pow_lt_pow_iff_right (by omega:1<10)).1 (Nat.lt_of_le_of_lt h1 h2)
   omega
  exact Nat.le_antisymm (key a2 h'.lt a1) (key b2 h.lt b1)
theorem IsTxt.uniq {s t:ByteArray} {x:Nat} (h:IsTxt s x) (h':IsTxt t x):s=t:=by
 obtain⟨L,h1,h2,h3⟩:=h
 obtain⟨M,g1,g2,g3⟩:=h'
 obtain rfl:=h1.uniq g1
 have hs:s.data.size=t.data.size:=by
  have a:s.data.size=s.size:=rfl
  have b:t.data.size=t.size:=rfl
  omega
 have hd:s.data=t.data:=by
  apply Array.ext hs
  intro i hi hj
  apply UInt8.toNat_inj.1
  have a:=h3 i hi
  have b:=g3 i hj
  exact a.trans b.symm
 cases s;cases t;simp_all
theorem FracTxt.uniq {s t:ByteArray} {p:Int} {d:Nat} (h:FracTxt s p d) (h':FracTxt t p d):s=t:=by
 obtain⟨a,h1,h2⟩:=h
 obtain⟨b,g1,g2⟩:=h'
 obtain rfl:=h1.uniq g1
 rcases h2 with ⟨hd,rfl⟩ | ⟨hd,u,hu,rfl⟩
 ·rcases g2 with ⟨_,rfl⟩ | ⟨hd2,_⟩
  ·rfl
  ·exact absurd hd hd2
 ·rcases g2 with ⟨hd2,_⟩ | ⟨_,v,hv,rfl⟩
  ·exact absurd hd2 hd
  ·rw [hu.uniq hv]
end Go.Proofs.YtgmopcncbpdniaaGreat
