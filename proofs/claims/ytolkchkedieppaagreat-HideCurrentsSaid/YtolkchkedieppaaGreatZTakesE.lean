import Derived.Test.YtolkchkedieppaaGreatProg
import Derived.Deep.RegionHeld3
import Derived.Test.YtolkchkedieppaaGreatZTakes
set_option linter.unusedVariables false
set_option linter.unusedSimpArgs false
namespace Go.Proofs.YtolkchkedieppaaGreat
open Go
def lastAt (ops:Array Oper) (i:Nat):Bool:=
 match ops[i]? with
 | none=>false
 | some (x:Oper)=>x.after.all (fun e=>decide (e.on<i)) && (match x.guard with | none=>true | some (g,_)=>decide (g<i)) &&
   (decide (i+1=ops.size) || (List.range ops.size).any (fun j=>match ops[j]? with | some (y:Oper)=>y.after.any (fun e=>Region.binds .any e && decide (e.on=i)) | none=>false))
def lastB (ops:Array Oper):Bool:=(List.range ops.size).all (lastAt ops)
section
variable {P:Program} {pre:Array Oper} {o:Oper} {Q:Exit→Act→World→Prop}
theorem lastB_spec (h:lastB (pre.push o)=true) (i:Nat) (hi:i<pre.size+1) :
  ∃ x:Oper,(pre.push o)[i]? = some x∧(∀ e ∈ x.after,e.on<i)∧(∀ g b,x.guard=some (g,b)→g<i)∧
   (i+1=pre.size+1∨∃ (j:Nat) (y:Oper),(pre.push o)[j]? = some y∧∃ e ∈ y.after,Region.binds .any e=true∧e.on=i):=by
 unfold lastB at h
 rw [List.all_eq_true] at h
 have h1:=h i (by simpa using hi)
 unfold lastAt at h1
 split at h1
 ·cases h1
 ·rename_i x hx
  simp only [Bool.and_eq_true,Bool.or_eq_true,decide_eq_true_eq,List.any_eq_true,Array.all_eq_true_iff_forall_mem] at h1
  obtain⟨⟨h2,h3⟩,h4⟩:=h1
  refine⟨x,hx,h2,fun g b hg=>?_,?_⟩
  ·rw [hg] at h3;simpa using h3
  ·rcases h4 with h4 | ⟨j,_,h5⟩
   ·left;simpa using h4
   ·right
    split at h5
    ·rename_i y hy
     rw [Array.any_eq_true'] at h5;simp only [Bool.and_eq_true,decide_eq_true_eq] at h5
     obtain⟨e,he,h6,h7⟩:=h5
     exact⟨j,y,hy,e,he,h6,h7⟩
    ·cases h5
theorem push_get (i:Nat) (hi:i<pre.size):(pre.push o)[i]? = pre[i]?:=by
 rw [Array.getElem?_push,if_neg (by omega)]
theorem getD_push (L:Array Bool) (c d:Bool) (i:Nat) (hi:i<L.size):(L.push c).getD i d=L.getD i d:=by
 simp [Array.getD,hi,Nat.lt_succ_of_lt hi,Array.getElem_push]
theorem getD_last (L:Array Bool) (c d:Bool):(L.push c).getD L.size d=c:=by
 simp [Array.getD]
theorem getD_in (L:Array Bool) (i:Nat) (hi:i<L.size) (c d:Bool):L.getD i c=L.getD i d:=by
 simp [Array.getD,hi]
theorem getD_ne (L:Array Bool) (i k:Nat) (c d:Bool) (h:k≠i):(L.setIfInBounds i c).getD k d=L.getD k d:=by
 by_cases e:k<L.size
 ·simp [Array.getD,e,Array.getElem_setIfInBounds,Ne.symm h]
 ·simp [Array.getD,e]
theorem set_last (L:Array Bool) (n:Nat) (h:L.size=n):(L.push false).setIfInBounds n true=L.push true:=by
 apply Array.ext_getElem?
 intro k
 rw [Array.getElem?_setIfInBounds,Array.getElem?_push,Array.getElem?_push]
 by_cases e:n=k
 ·subst e;subst h;simp
 ·rw [if_neg e,if_neg (by omega),if_neg (by omega)]
theorem set_early (L:Array Bool) (i:Nat) (h:i<L.size):(L.push false).setIfInBounds i true=(L.setIfInBounds i true).push false:=by
 apply Array.ext_getElem?
 intro k
 rw [Array.getElem?_setIfInBounds,Array.getElem?_push,Array.getElem?_push,Array.getElem?_setIfInBounds]
 by_cases e:i=k
 ·subst e
  simp [h,Nat.lt_succ_of_lt h,Nat.ne_of_lt h]
 ·rw [if_neg e,if_neg e]
  simp
def ClL (pre:Array Oper) (L:Array Bool):Prop:=∀ j x,L.getD j false=true→pre[j]? = some x→∀ e ∈ x.after,Region.binds .any e=true→L.getD e.on false=true
theorem clL_set {L:Array Bool} (h:ClL pre L) {i:Nat} (hi:i ∈ Region.ready .any pre L):ClL pre (L.setIfInBounds i true):=by
 obtain⟨hu,x,hx,hall⟩:=mem_ready.1 hi
 have key:∀ k,L.getD k false=true→(L.setIfInBounds i true).getD k false=true:=fun k hk=>by
  by_cases e:k=i
  ·subst e
   have:k<L.size:=by
    refine Nat.lt_of_not_le (fun hn=>?_)
    simp [Array.getD,Nat.not_lt.2 hn] at hk
   simp [Array.getD,this]
  ·rw [getD_ne _ _ _ _ _ e];exact hk
 intro j y hj hy e he hb
 by_cases ej:j=i
 ·subst ej
  rw [hx] at hy
  injection hy with hy
  subst hy
  exact key _ (hall e he hb)
 ·rw [getD_ne _ _ _ _ _ ej] at hj
  exact key _ (h j y hj hy e he hb)
theorem ready_push (hB:lastB (pre.push o)=true) {L:Array Bool} (hL:L.size=pre.size) (c:Bool) (i:Nat) (hi:i<pre.size):i ∈ Region.ready .any (pre.push o) (L.push c)↔i ∈ Region.ready .any pre L:=by
 obtain⟨x,hx,h1,-,-⟩:=lastB_spec hB i (by omega)
 rw [mem_ready,mem_ready,getD_push L c true i (by omega),push_get i hi]
 rw [push_get i hi] at hx
 constructor
 ·rintro ⟨a,y,hy,h⟩
  refine⟨a,y,hy,fun e he hb=>?_⟩
  rw [hx] at hy;injection hy with hy;subst hy
  have:=h1 e he
  rw [←getD_push L c false e.on (by omega)];exact h e he hb
 ·rintro ⟨a,y,hy,h⟩
  refine⟨a,y,hy,fun e he hb=>?_⟩
  rw [hx] at hy;injection hy with hy;subst hy
  have:=h1 e he
  rw [getD_push L c false e.on (by omega)];exact h e he hb
theorem last_not (hB:lastB (pre.push o)=true) {L:Array Bool} (hL:L.size=pre.size) (hC:ClL pre L) (hn:pre.size ∈ Region.ready .any (pre.push o) (L.push false)):∀ d i,i+d+1=pre.size→L.getD i false=true:=by
 obtain⟨-,x,hx,hall⟩:=mem_ready.1 hn
 intro d
 induction d using Nat.strongRecOn with
 | ind d ih=>
  intro i hi
  obtain⟨y,hy,-,-,h4⟩:=lastB_spec hB i (by omega)
  rcases h4 with h4 | ⟨j,z,hz,e,he,hb,hei⟩
  ·omega
  ·have hjs:j<pre.size+1:=by
    have:=(Array.getElem?_eq_some_iff.1 hz).1
    simpa using this
   obtain⟨z',hz',h5,-,-⟩:=lastB_spec hB j hjs
   rw [hz] at hz';injection hz' with hz';subst hz'
   have hij:=h5 e he
   rw [hei] at hij
   by_cases ej:j=pre.size
   ·subst ej
    rw [hx] at hz;injection hz with hz;subst hz
    have:=hall e he hb
    rw [hei,getD_push L false false i (by omega)] at this
    exact this
   ·have hjl:=ih (pre.size - j - 1) (by omega) j (by omega)
    rw [push_get j (by omega)] at hz
    have:=hC j z hjl hz e he hb
    rw [hei] at this;exact this
theorem none_left (hB:lastB (pre.push o)=true) {L:Array Bool} (hL:L.size=pre.size) (hr:Region.ready .any pre L = []):∀ i,i<pre.size→L.getD i false=true:=by
 intro i
 induction i using Nat.strongRecOn with
 | ind i ih=>
  intro hi
  obtain⟨x,hx,h1,-,-⟩:=lastB_spec hB i (by omega)
  rw [push_get i hi] at hx
  rcases hl:L.getD i false with _ | _
  ·have:i ∈ Region.ready .any pre L:=mem_ready.2 ⟨by rw [getD_in L i (by omega) true false];exact hl,x,hx,fun e he hb=>ih e.on (h1 e he) (by have:=h1 e he;omega)⟩
   rw [hr] at this
   cases this
  ·rfl
theorem all_then (hB:lastB (pre.push o)=true) {L:Array Bool} (hL:L.size=pre.size) (hall:∀ i,i<pre.size→L.getD i false=true) :
  (∀ j,j ∈ Region.ready .any (pre.push o) (L.push false)↔j=pre.size)∧Region.ready .any (pre.push o) (L.push true) = []:=by
 refine⟨fun j=>⟨fun hj=>?_,fun hj=>?_⟩,?_⟩
 ·obtain⟨hu,x,hx,_⟩:=mem_ready.1 hj
  have hjs:j<pre.size+1:=by simpa using (Array.getElem?_eq_some_iff.1 hx).1
  by_cases e:j=pre.size
  ·exact e
  ·have h1:=hall j (by omega)
   rw [getD_push L false true j (by omega),getD_in L j (by omega) true false,h1] at hu
   cases hu
 ·subst hj
  obtain⟨x,hx,h1,-,-⟩:=lastB_spec hB pre.size (by omega)
  refine mem_ready.2 ⟨by rw [←hL,getD_last],x,hx,fun e he hb=>?_⟩
  have:=h1 e he
  rw [getD_push L false false e.on (by omega)]
  exact hall _ this
 ·refine List.eq_nil_iff_forall_not_mem.2 (fun j hj=>?_)
  obtain⟨hu,x,hx,_⟩:=mem_ready.1 hj
  have hjs:j<pre.size+1:=by simpa using (Array.getElem?_eq_some_iff.1 hx).1
  by_cases e:j=pre.size
  ·subst e
   rw [←hL,getD_last] at hu
   cases hu
  ·have h1:=hall j (by omega)
   rw [getD_push L true true j (by omega),getD_in L j (by omega) true false,h1] at hu
   cases hu
def LastQ (P:Program) (ops:Array Oper) (n:Nat) (Q:Exit→Act→World→Prop):Exit→Act→World→Prop:=Exit.then (wpOp P ops Q n (Q .normal)) Q
theorem letsOut_last {ops:Array Oper} {n:Nat} (h:LetsOut (LastQ P ops n Q)):LetsOut Q:=h
theorem oper_last {x:Oper} {ops:Array Oper} {n:Nat} {K:Act→World→Prop} {a:Act} {w:World} (h:x.wp P a w K (LastQ P ops n Q)):x.wp P a w K Q:=by
 unfold Oper.wp at *
 generalize (execOp a.eval x).run P w=r at *
 cases r with
 | ok m w'=>cases m <;> exact h
 | halt e w'=>cases e <;> exact h
theorem yielded_push (a:Act) (g:Nat) (hg:g<pre.size):yielded (pre.push o) a.tmps g=yielded pre a.tmps g:=by
 unfold yielded;rw [push_get g hg]
theorem wanted_push {x:Oper} (a:Act) (hg:∀ g b,x.guard=some (g,b)→g<pre.size):Region.wanted x (yielded (pre.push o) a.tmps)=Region.wanted x (yielded pre a.tmps):=by
 unfold Region.wanted
 split
 ·rfl
 ·rename_i g b e
  rw [yielded_push a g (hg g b e)]
theorem wpOp_last (hB:lastB (pre.push o)=true) {ops:Array Oper} {n i:Nat} (hi:i<pre.size) {K K':Act→World→Prop} (hK:∀ a w,K a w→K' a w) {a:Act} {w:World} (h:wpOp P pre (LastQ P ops n Q) i K a w):wpOp P (pre.push o) Q i K' a w:=by
 obtain⟨x,hx,-,h3,-⟩:=lastB_spec hB i (by omega)
 have hx':=hx
 rw [push_get i hi] at hx'
 unfold wpOp at *
 rw [hx]
 rw [hx'] at h
 simp only at h ⊢
 rw [wanted_push a (fun g b e=>Nat.lt_trans (h3 g b e) hi)]
 split
 ·rename_i hw
  rw [if_pos hw] at h
  rcases h with h | ⟨h1,h2⟩
  ·exact .inl (oper_last (Oper.wp_mono hK h))
  ·exact .inr ⟨h1,letsOut_last h2⟩
 ·rename_i hw
  rw [if_neg hw] at h
  exact hK _ _ h
theorem wpAny_last (hB:lastB (pre.push o)=true):∀ (fuel:Nat) (L:Array Bool) (a:Act) (w:World),L.size=pre.size→ClL pre L→
  wpAny P .any pre (LastQ P (pre.push o) pre.size Q) fuel L a w→wpAny P .any (pre.push o) Q (fuel+1) (L.push false) a w:=by
 have fin:∀ (fuel:Nat) (L:Array Bool) (a:Act) (w:World),L.size=pre.size→Region.ready .any pre L = []→LastQ P (pre.push o) pre.size Q .normal a w→wpAny P .any (pre.push o) Q (fuel+1) (L.push false) a w:=by
  intro fuel L a w hL hr hq
  obtain⟨g1,g2⟩:=all_then hB hL (none_left hB hL hr)
  refine⟨fun h=>?_,fun i hi=>?_⟩
  ·have:=(g1 pre.size).2 rfl
   rw [h] at this;cases this
  ·have e:=(g1 i).1 hi
   subst e
   have hs:=set_last L pre.size hL
   rw [hs]
   refine wpOp_mono (fun a w h=>?_) (show wpOp P (pre.push o) Q pre.size (Q .normal) a w from hq)
   cases fuel with
   | zero=>exact⟨g2,h⟩
   | succ f=>exact⟨fun _=>h,fun i hi=>by rw [g2] at hi;cases hi⟩
 intro fuel
 induction fuel with
 | zero=>intro L a w hL hC h;exact fin 0 L a w hL h.1 h.2
 | succ fuel ih=>
  intro L a w hL hC h
  by_cases hr:Region.ready .any pre L = []
  ·exact fin (fuel+1) L a w hL hr (h.1 hr)
  ·refine⟨fun h2=>?_,fun i hi=>?_⟩
   ·obtain⟨j,hj⟩:=List.exists_mem_of_ne_nil _ hr
    have hjs:j<pre.size:=by
     obtain⟨_,x,hx,_⟩:=mem_ready.1 hj
     exact (Array.getElem?_eq_some_iff.1 hx).1
    have:=(ready_push hB hL false j hjs).2 hj
    rw [h2] at this;cases this
   ·have his:i<pre.size:=by
     obtain⟨_,x,hx,_⟩:=mem_ready.1 hi
     have hjs:i<pre.size+1:=by simpa using (Array.getElem?_eq_some_iff.1 hx).1
     refine Nat.lt_of_le_of_ne (by omega) (fun e=>?_)
     subst e
     have hall:=last_not hB hL hC hi
     refine hr (List.eq_nil_iff_forall_not_mem.2 (fun j hj=>?_))
     obtain⟨hu,y,hy,_⟩:=mem_ready.1 hj
     have hjs:j<pre.size:=(Array.getElem?_eq_some_iff.1 hy).1
     have h1:=hall (pre.size - j - 1) j (by omega)
     rw [getD_in L j (by omega) true false,h1] at hu
     cases hu
    have hi':=(ready_push hB hL false i his).1 hi
    have hs:=set_early L i (by omega)
    rw [hs]
    exact wpOp_last hB his (fun a w h3=>ih _ _ _ (by simpa using hL) (clL_set hC hi') h3) (h.2 i hi')
theorem wp_region_last {ops:Array Oper} {S:World→Prop} {id:Nat} {a:Act} {w:World} (hm:P.follows .mixedOrders=true) (hB:(decide (0<ops.size) && lastB ops)=true) (hS:S w.drew)
  (h:S w.drew→wpAnyH P .any ops.pop (LastQ P ops ops.pop.size Q) S ops.pop.size (Array.replicate ops.pop.size false) a w.drew):(Code.region id ops true).wp P Q a w:=by
 rw [Bool.and_eq_true,decide_eq_true_eq] at hB
 obtain⟨h0,hB⟩:=hB
 obtain⟨pre,o,rfl⟩:∃ pre o,ops=Array.push pre o:=Array.eq_push_of_size_ne_zero (by omega)
 rw [Array.pop_push] at h
 refine wp_region_any hm ?_
 have h1:=wpAny_last hB pre.size (Array.replicate pre.size false) a w.drew (by simp) (fun j x hj=>by
  exfalso
  simp [Array.getD] at hj) (wpAny_of_held _ _ _ _ (h hS))
 have e:(Array.replicate pre.size false).push false=Array.replicate (pre.push o).size false:=by simp [Array.replicate_succ]
 rw [e] at h1
 simpa using h1
theorem lastQ_step {n:Nat} {ops:Array Oper} {x:Oper} {a:Act} {w:World} (ho:ops[n]? = some x)
  (h:∀ K:Act→World→Prop,Shut (∀ a w,Q .normal a w→K a w)→if Region.wanted x (yielded ops a.tmps)=true then Oper.wp P x a w K Q else K (a.put x.dst undef) w):LastQ P ops n Q .normal a w:=
 wpOp_step ho (fun K' hK=>h K' (fun a w hq=>hK a w hq))
end
end Go.Proofs.YtolkchkedieppaaGreat
namespace Go.Proofs.YtolkchkedieppaaGreat
open Go Go.RowKit
section
variable {P:Program} {ops:Array Oper} {Q:Exit→Act→World→Prop} {S:World→Prop}
def wpAnyE (P:Program) (ops:Array Oper) (Q:Exit→Act→World→Prop) (S:World→Prop):Nat→Array Bool→Act→World→Prop
 | 0,L,a,w=>Region.ready .any ops L = []∧∀ w',Below w.heap.size w w'→Q .normal a w'
 | f+1,L,a,w=>∀ w',Below w.heap.size w w'→(Region.ready .any ops L = []→Q .normal a w')∧
   ∀ i ∈ Region.ready .any ops L,wpOp P ops Q i (fun a' w2=>S w2∧Below w'.heap.size w' w2∧wpAnyE P ops Q S f (L.setIfInBounds i true) a' w2) a w'
def StaysB (S:World→Prop):Prop:=∀ w w',S w→Below w.heap.size w w'→S w'
theorem bl_trans {a b c:World} (h:Below a.heap.size a b) (k:Below b.heap.size b c):Below a.heap.size a c:=h.trans (k.mono h.size)
theorem wpAnyE_mono:∀ (f:Nat) {L:Array Bool} {a:Act} {w w':World},wpAnyE P ops Q S f L a w→Below w.heap.size w w'→wpAnyE P ops Q S f L a w'
 | 0,_,_,_,_,h,hb=>⟨h.1,fun w2 h2=>h.2 w2 (bl_trans hb h2)⟩
 | _+1,_,_,_,_,h,hb=>fun w2 h2=>h w2 (bl_trans hb h2)
theorem wpAnyE_first {i:Nat} {oi:Oper} {v:Value} (hst:StaysB S) (hi:ops[i]? = some oi) (hsel:∀ (j:Nat) (o:Oper) cs b,ops[j]? = some o→o.op≠.select cs b)
  (hQ:∀ c a w,Q (.panic c) (a.put oi.dst v) w→Q (.panic c) a w) :
  ∀ (f:Nat) (L:Array Bool) (a:Act) (w:World),
   (∀ j oj,ops[j]? = some oj→j≠i→L.getD j true=false→(∀ e ∈ oj.after,Region.binds .any e=true→e.on≠i)→oi.apart ops oj=true)→
   i ∈ Region.ready .any ops L→YieldsIf P ops S oi v a→S w→
   wpAnyE P ops Q S f (L.setIfInBounds i true) (a.put oi.dst v) w→wpAnyE P ops Q S (f+1) L a w:=by
 intro f
 induction f with
 | zero=>
  intro L a w _ hr hy hS H w' hb
  refine⟨fun h=>(by rw [h] at hr;cases hr),fun j hj=>?_⟩
  by_cases hji:j=i
  ·subst hji;exact hy.wpOp hi (hst _ _ hS hb) ⟨hst _ _ hS hb,Below.refl _ _,H.1,fun w2 h2=>H.2 w2 (bl_trans hb h2)⟩
  ·have:=ready_mono hj hji
   rw [H.1] at this
   cases this
 | succ f ih=>
  intro L a w hfree hr hy hS H w' hb
  refine⟨fun h=>(by rw [h] at hr;cases hr),fun j hj=>?_⟩
  by_cases hji:j=i
  ·subst hji;exact hy.wpOp hi (hst _ _ hS hb) ⟨hst _ _ hS hb,Below.refl _ _,fun w2 h2=>H w2 (bl_trans hb h2)⟩
  ·have h1:=(H w' hb).2 j (ready_mono hj hji)
   obtain⟨hjun,oj,hoj,hall⟩:=mem_ready.1 hj
   have hnot:∀ e ∈ oj.after,Region.binds .any e=true→e.on≠i:=fun e he hbd heq=>by
    have h1:=hall e he hbd
    have h0:=(mem_ready.1 hr).1
    rw [heq] at h1
    rcases Nat.lt_or_ge i L.size with h' | h'
    ·rw [getD_in L i h' true false,h1] at h0;cases h0
    ·simp [Array.getD,Nat.not_lt.2 h'] at h1
   have h2:=wpOp_putIf hoj (hfree j oj hoj hji hjun hnot) (fun cs b=>hsel i oi cs b hi) (fun cs b=>hsel j oj cs b hoj) hQ hy h1
   have hfree':∀ k ok,ops[k]? = some ok→k≠i→(L.setIfInBounds j true).getD k true=false→
     (∀ e ∈ ok.after,Region.binds .any e=true→e.on≠i)→oi.apart ops ok=true:=fun k ok hk hki hun hno=>by
    refine hfree k ok hk hki ?_ hno
    by_cases hjk:j=k
    ·subst hjk;exact hjun
    ·rw [getD_set_ne true hjk] at hun;exact hun
   refine wpOp_mono (fun a2 w2 h3=>⟨h3.2.1,h3.2.2.1,ih (L.setIfInBounds j true) a2 w2 hfree' (ready_mono hr (Ne.symm hji)) h3.1 h3.2.1 ?_⟩) h2
   rw [Array.setIfInBounds_comm _ _ hji]
   exact h3.2.2.2
theorem wpAnyE_take {i:Nat} {oi:Oper} {v:Value} {f:Nat} {L:Array Bool} {a:Act} {w:World} (hst:StaysB S) (hi:ops[i]? = some oi)
  (hs:Region.noSelect ops=true) (hf:Region.free .any ops L i=true) (hr:(Region.ready .any ops L).contains i=true)
  (hQ:∀ c a w,Q (.panic c) (a.put oi.dst v) w→Q (.panic c) a w) (hy:YieldsIf P ops S oi v a) (hS:S w)
  (h:wpAnyE P ops Q S f (L.setIfInBounds i true) (a.put oi.dst v) w):wpAnyE P ops Q S (f+1) L a w:=
 wpAnyE_first hst hi (Region.noSelect_spec hs) hQ f L a w (Region.free_spec hi hf) (by simpa using hr) hy hS h
def AllReadyE (P:Program) (ops:Array Oper) (Q:Exit→Act→World→Prop) (S:World→Prop) (f:Nat) (L:Array Bool) (a:Act) (w:World) (rs:List Nat):Prop:=
 ∀ i ∈ rs,wpOp P ops Q i (fun a' w2=>S w2∧Below w.heap.size w w2∧wpAnyE P ops Q S f (L.setIfInBounds i true) a' w2) a w
theorem AllReadyE.nil {f:Nat} {L:Array Bool} {a:Act} {w:World} : AllReadyE P ops Q S f L a w []:=fun _ h=>by cases h
theorem AllReadyE.cons {f:Nat} {L:Array Bool} {a:Act} {w:World} {i:Nat} {o:Oper} {rs:List Nat} (ho:ops[i]? = some o)
  (h:∀ K':Act→World→Prop,Shut (∀ a w2,S w2→Below w.heap.size w w2→(S w2→wpAnyE P ops Q S f (L.setIfInBounds i true) a w2)→K' a w2)→if Region.wanted o (yielded ops a.tmps)=true then Oper.wp P o a w K' Q else K' (a.put o.dst undef) w)
  (hs:AllReadyE P ops Q S f L a w rs):AllReadyE P ops Q S f L a w (i :: rs):=fun j hj=>by
 rcases List.mem_cons.1 hj with rfl | hj
 ·exact wpOp_step ho (fun K' hK=>h K' (fun a w2 hS hB hW=>hK a w2 ⟨hS,hB,hW hS⟩))
 ·exact hs j hj
theorem wpAnyE_ready {rs:List Nat} {f:Nat} {L:Array Bool} {a:Act} {w:World} (hr:Region.ready .any ops L=rs) (hne:rs≠[])
  (h:∀ w',Below w.heap.size w w'→AllReadyE P ops Q S f L a w' rs):wpAnyE P ops Q S (f+1) L a w:=
 fun w' hb=>⟨fun h0=>absurd (hr ▸ h0) hne,hr ▸ h w' hb⟩
theorem wpAnyE_done {L:Array Bool} {a:Act} {w:World} (hr:Region.ready .any ops L = []) (h:∀ w',Below w.heap.size w w'→Q .normal a w'):∀ f,wpAnyE P ops Q S f L a w
 | 0=>⟨hr,h⟩
 | _+1=>fun w' hb=>⟨fun _=>h w' hb,by rw [hr];simp⟩
theorem wpOp_put {j:Nat} {oj:Oper} {d:Tmp} {v:Value} (hj:ops[j]? = some oj) (h1:d ∉ oj.looksAt ops) (h2:oj.dst≠some d) (hsel:∀ cs b,oj.op≠.select cs b)
  (hQ:∀ c a w,Q (.panic c) a w→Q (.panic c) (a.put (some d) v) w) {K:Act→World→Prop} {a:Act} {w:World}
  (h:wpOp P ops Q j K a w):wpOp P ops Q j (fun a' w'=>∃ a1,a'=a1.put (some d) v∧K a1 w') (a.put (some d) v) w:=by
 have hd:∀ x,some d=some x→x ∉ oj.looksAt ops:=fun x hx=>by cases hx;exact h1
 have hc:∀ (a:Act) u,(a.put (some d) v).put oj.dst u=(a.put oj.dst u).put (some d) v:=fun a u=>
  Act.put_comm a v u (fun x hx=>by cases hx;exact h2)
 unfold wpOp at *
 simp only [hj] at *
 rw [wanted_put oj a (some d) v hd]
 split
 ·rename_i hw
  simp only [hw,if_true] at h
  rcases h with h | ⟨hasks,hlets⟩
  case inr=>exact .inr ⟨by unfold Oper.asks at *;rw [execOp_put oj hsel a (some d) v hd];exact hasks,hlets⟩
  refine .inl ?_
  unfold Oper.wp at *
  rw [execOp_put oj hsel a (some d) v hd]
  generalize (execOp a.eval oj).run P w=r at *
  cases r with
  | ok n w'=>
   cases n <;> simp only [Oper.upon] at h ⊢
   case value u=>exact⟨_,hc a u,h⟩
   case skip=>exact⟨_,hc a undef,h⟩
   case defer dd=>exact⟨_,by rw [Act.put_defers];exact hc _ undef,h⟩
   case enter f args=>
    refine Calls.mono h fun e w2 he=>?_
    cases e with
    | returned u=>exact⟨_,hc a u,he⟩
    | panicked c=>exact hQ _ _ _ he
    | outgrown=>exact he
   case row row args=>exact Rows.mono h fun u w2 he=>⟨_,hc a u,he⟩
  | halt x w'=>
   cases x <;> simp only [Oper.upon] at h ⊢
   case panic u=>exact hQ _ _ _ h
 ·rename_i hw
  simp only [hw] at h
  exact⟨_,hc a undef,h⟩
end
section
variable {P:Program} {pre:Array Oper} {al:Oper} {Q:Exit→Act→World→Prop} {S:World→Prop} {d:Tmp} {zs:Array Value} {t:TypeId}
def floatB (pre:Array Oper) (al:Oper) (d:Tmp):Bool:=
 al.after.isEmpty && al.guard.isNone && decide (al.dst=some d) && Region.noSelect pre &&
 pre.all (fun x=>x.after.all (fun e=>decide (e.on<pre.size)) && (match x.guard with | none=>true | some (g,_)=>decide (g<pre.size)) && !(x.looksAt pre).contains d && decide (x.dst≠some d))
theorem floatB_spec (h:floatB pre al d=true):al.after = #[]∧al.guard=none∧al.dst=some d∧Region.noSelect pre=true∧
  ∀ (i:Nat) (x:Oper),pre[i]? = some x→(∀ e ∈ x.after,e.on<pre.size)∧(∀ g b,x.guard=some (g,b)→g<pre.size)∧d ∉ x.looksAt pre∧x.dst≠some d:=by
 unfold floatB at h
 simp only [Bool.and_eq_true,decide_eq_true_eq,Array.all_eq_true_iff_forall_mem,Bool.not_eq_true',Array.isEmpty_iff,Option.isNone_iff_eq_none] at h
 obtain⟨⟨⟨⟨h1,h2⟩,h3⟩,h4⟩,h5⟩:=h
 refine⟨h1,h2,h3,h4,fun i x hx=>?_⟩
 obtain⟨⟨⟨g1,g2⟩,g3⟩,g4⟩:=h5 x (Array.mem_of_getElem? hx)
 refine⟨g1,fun g b hg=>?_,by simpa using g3,g4⟩
 rw [hg] at g2;simpa using g2
theorem looks_push {x:Oper} (hg:∀ g b,x.guard=some (g,b)→g<pre.size):x.looksAt (pre.push al)=x.looksAt pre:=by
 unfold Oper.looksAt
 congr 1
 split
 ·rename_i g b e
  rw [push_get g (hg g b e)]
 ·rfl
def FloatQ (B0:Nat) (d:Tmp) (zs:Array Value) (t:TypeId) (Q:Exit→Act→World→Prop):Exit→Act→World→Prop:=
 Exit.then (fun a w=>∀ x w',Below w.heap.size w w'→B0≤x→w'.heap[x]? = some (.cells zs t (0,0))→Q .normal (a.put (some d) (.pointer (some ⟨x,0,none⟩))) w') Q
theorem oper_float {B0:Nat} {x:Oper} {K:Act→World→Prop} {a:Act} {w:World} (h:x.wp P a w K (FloatQ B0 d zs t Q)):x.wp P a w K Q:=by
 unfold Oper.wp at *
 generalize (execOp a.eval x).run P w=r at *
 cases r with
 | ok m w'=>cases m <;> exact h
 | halt e w'=>cases e <;> exact h
theorem wpOp_float {B0 i:Nat} (hB:floatB pre al d=true) (hi:i<pre.size) {K K':Act→World→Prop} (hK:∀ a w,K a w→K' a w) {a:Act} {w:World} (h:wpOp P pre (FloatQ B0 d zs t Q) i K a w):wpOp P (pre.push al) Q i K' a w:=by
 obtain⟨x,hx⟩:∃ x,pre[i]? = some x:=⟨_,Array.getElem?_eq_getElem hi⟩
 obtain⟨-,-,-,-,h5⟩:=floatB_spec hB
 obtain⟨-,g2,-,-⟩:=h5 i x hx
 unfold wpOp at *
 rw [push_get i hi,hx]
 rw [hx] at h
 simp only at h ⊢
 rw [wanted_push a g2]
 split
 ·rename_i hw
  rw [if_pos hw] at h
  rcases h with h | ⟨h1,h2⟩
  ·exact .inl (oper_float (Oper.wp_mono hK h))
  ·exact .inr ⟨h1,h2⟩
 ·rename_i hw
  rw [if_neg hw] at h
  exact hK _ _ h
theorem ready_float (hB:floatB pre al d=true) {L:Array Bool} (hL:L.size=pre.size) (c:Bool) (i:Nat):i ∈ Region.ready .any (pre.push al) (L.push c)↔(i ∈ Region.ready .any pre L∨i=pre.size∧c=false):=by
 obtain⟨h1,-,-,-,h5⟩:=floatB_spec hB
 by_cases hi:i<pre.size
 ·rw [mem_ready,mem_ready,getD_push L c true i (by omega),push_get i hi]
  have key:∀ x,pre[i]? = some x→∀ e ∈ x.after,(L.push c).getD e.on false=L.getD e.on false:=fun x hx e he=>getD_push L c false e.on (by have:=(h5 i x hx).1 e he;omega)
  constructor
  ·rintro ⟨a,y,hy,h⟩
   exact .inl ⟨a,y,hy,fun e he hb=>by rw [←key y hy e he];exact h e he hb⟩
  ·rintro (⟨a,y,hy,h⟩ | ⟨h,_⟩)
   ·exact⟨a,y,hy,fun e he hb=>by rw [key y hy e he];exact h e he hb⟩
   ·omega
 ·have hno:i ∉ Region.ready .any pre L:=fun h=>by
   obtain⟨_,y,hy,_⟩:=mem_ready.1 h
   exact hi (Array.getElem?_eq_some_iff.1 hy).1
  by_cases e:i=pre.size
  ·subst e
   rw [mem_ready,←hL,getD_last]
   constructor
   ·rintro ⟨a,_⟩;exact .inr ⟨rfl,a⟩
   ·rintro (h | ⟨_,h⟩)
    ·rw [hL] at h;exact absurd h hno
    ·exact⟨h,al,by rw [hL,Array.getElem?_push,if_pos rfl],fun e he=>by rw [h1] at he;simp at he⟩
  ·constructor
   ·intro h
    obtain⟨_,y,hy,_⟩:=mem_ready.1 h
    have:i<(pre.push al).size:=(Array.getElem?_eq_some_iff.1 hy).1
    simp at this
    omega
   ·rintro (h | ⟨h,_⟩)
    ·exact absurd h hno
    ·exact absurd h e
theorem set_early' (L:Array Bool) (c:Bool) (i:Nat) (h:i<L.size):(L.push c).setIfInBounds i true=(L.setIfInBounds i true).push c:=by
 apply Array.ext_getElem?
 intro k
 rw [Array.getElem?_setIfInBounds,Array.getElem?_push,Array.getElem?_push,Array.getElem?_setIfInBounds]
 by_cases e:i=k
 ·subst e
  simp [h,Nat.lt_succ_of_lt h,Nat.ne_of_lt h]
 ·rw [if_neg e,if_neg e]
  simp
theorem float_done {B0:Nat} (hB:floatB pre al d=true) (hQ:∀ c a w v,Q (.panic c) a w→Q (.panic c) (a.put (some d) v) w) (x:Nat) (hx:B0≤x) :
  ∀ (f:Nat) (L:Array Bool) (a:Act) (w:World),L.size=pre.size→w.heap[x]? = some (.cells zs t (0,0))→
   wpAnyE P pre (FloatQ B0 d zs t Q) S f L a w→wpAnyE P (pre.push al) Q S f (L.push true) (a.put (some d) (.pointer (some ⟨x,0,none⟩))) w:=by
 obtain⟨-,-,-,h4,h5⟩:=floatB_spec hB
 have keep:∀ {w w':World},w.heap[x]? = some (.cells zs t (0,0))→Below w.heap.size w w'→w'.heap[x]? = some (.cells zs t (0,0)):=fun h hb=>by
  rw [hb.block x (Array.getElem?_eq_some_iff.1 h).1];exact h
 have rd:∀ (L:Array Bool),L.size=pre.size→Region.ready .any pre L = []→Region.ready .any (pre.push al) (L.push true) = []:=fun L hL hr=>by
  refine List.eq_nil_iff_forall_not_mem.2 (fun j hj=>?_)
  rcases (ready_float hB hL true j).1 hj with h | ⟨_,h⟩
  ·rw [hr] at h;cases h
  ·cases h
 intro f
 induction f with
 | zero=>
  intro L a w hL hw h
  exact⟨rd L hL h.1,fun w' hb=>h.2 w' hb x w' (Below.refl _ _) hx (keep hw hb)⟩
 | succ f ih=>
  intro L a w hL hw h w' hb
  obtain⟨g1,g2⟩:=h w' hb
  refine⟨fun h0=>?_,fun i hi=>?_⟩
  ·have:Region.ready .any pre L = []:=List.eq_nil_iff_forall_not_mem.2 (fun j hj=>by
    have:=(ready_float hB hL true j).2 (.inl hj)
    rw [h0] at this;cases this)
   exact g1 this x w' (Below.refl _ _) hx (keep hw hb)
  ·rcases (ready_float hB hL true i).1 hi with hi' | ⟨_,h⟩
   ·obtain⟨_,oi,hoi,_⟩:=mem_ready.1 hi'
    have his:i<pre.size:=(Array.getElem?_eq_some_iff.1 hoi).1
    obtain⟨k1,k2,k3,k4⟩:=h5 i oi hoi
    have s1:=wpOp_float (al:=al) hB his (K':=fun a' w2=>S w2∧Below w'.heap.size w' w2∧wpAnyE P pre (FloatQ B0 d zs t Q) S f (L.setIfInBounds i true) a' w2) (fun _ _ h=>h) (g2 i hi')
    have s2:=wpOp_put (ops:=pre.push al) (d:=d) (v:=.pointer (some ⟨x,0,none⟩)) (by rw [push_get i his];exact hoi) (by rw [looks_push k2];exact k3) k4 (fun cs b=>Region.noSelect_spec h4 i oi cs b hoi) (fun c a w h=>hQ c a w _ h) s1
    refine wpOp_mono (fun a2 w2 h3=>?_) s2
    obtain⟨a1,rfl,q1,q2,q3⟩:=h3
    rw [set_early' L true i (by omega)]
    exact⟨q1,q2,ih _ a1 w2 (by simpa using hL) (keep (keep hw hb) q2) q3⟩
   ·cases h
theorem wpAnyE_float {B0:Nat} (hst:StaysB S) (hB:floatB pre al d=true) (hz:∀ (a:Act) (w:World),(execOp a.eval al).run P w = .ok (.value (.pointer (some ⟨w.heap.size,0,none⟩))) (w.alloc (.cells zs t)))
  (hQ:∀ c a w v,Q (.panic c) a w→Q (.panic c) (a.put (some d) v) w) :
  ∀ (f:Nat) (L:Array Bool) (a:Act) (w:World),L.size=pre.size→B0≤w.heap.size→S w→
   wpAnyE P pre (FloatQ B0 d zs t Q) S f L a w→wpAnyE P (pre.push al) Q S (f+1) (L.push false) a w:=by
 obtain⟨e1,e2,e3,e4,e5⟩:=floatB_spec hB
 intro f
 induction f with
 | zero=>
  intro L a w hL h0 hS h w' hb
  have mem:=(ready_float hB hL false pre.size).2 (.inr ⟨rfl,rfl⟩)
  refine⟨fun h2=>(by rw [h2] at mem;cases mem),fun i hi=>?_⟩
  rcases (ready_float hB hL false i).1 hi with hi' | ⟨rfl,_⟩
  ·rw [h.1] at hi';cases hi'
  ·refine wpOp_step (o:=al) (by rw [Array.getElem?_push,if_pos rfl]) (fun K hK=>?_)
   have hw:Region.wanted al (yielded (pre.push al) a.tmps)=true:=by simp [Region.wanted,e2]
   rw [if_pos hw]
   unfold Oper.wp
   rw [hz]
   simp only [Oper.upon]
   have hb2:Below w'.heap.size w' (w'.alloc (.cells zs t)):=(Below.refl _ _).alloc (Nat.le_refl _) _
   refine hK _ _ ⟨hst _ _ (hst _ _ hS hb) hb2,hb2,?_⟩
   rw [set_last L pre.size hL,e3]
   exact float_done hB hQ w'.heap.size (Nat.le_trans h0 hb.size) 0 L a _ hL (heap_alloc_new w' _) (wpAnyE_mono 0 h (bl_trans hb hb2))
 | succ f ih=>
  intro L a w hL h0 hS h w' hb
  have mem:=(ready_float hB hL false pre.size).2 (.inr ⟨rfl,rfl⟩)
  refine⟨fun h2=>(by rw [h2] at mem;cases mem),fun i hi=>?_⟩
  rcases (ready_float hB hL false i).1 hi with hi' | ⟨rfl,_⟩
  ·obtain⟨_,oi,hoi,_⟩:=mem_ready.1 hi'
   have his:i<pre.size:=(Array.getElem?_eq_some_iff.1 hoi).1
   have s1:=wpOp_float (al:=al) hB his (K':=fun a' w2=>S w2∧Below w'.heap.size w' w2∧wpAnyE P pre (FloatQ B0 d zs t Q) S f (L.setIfInBounds i true) a' w2) (fun _ _ h=>h) ((h w' hb).2 i hi')
   refine wpOp_mono (fun a2 w2 h3=>?_) s1
   obtain⟨q1,q2,q3⟩:=h3
   rw [set_early' L false i (by omega)]
   exact⟨q1,q2,ih _ a2 w2 (by simpa using hL) (Nat.le_trans (Nat.le_trans h0 hb.size) q2.size) q1 q3⟩
  ·refine wpOp_step (o:=al) (by rw [Array.getElem?_push,if_pos rfl]) (fun K hK=>?_)
   have hw:Region.wanted al (yielded (pre.push al) a.tmps)=true:=by simp [Region.wanted,e2]
   rw [if_pos hw]
   unfold Oper.wp
   rw [hz]
   simp only [Oper.upon]
   have hb2:Below w'.heap.size w' (w'.alloc (.cells zs t)):=(Below.refl _ _).alloc (Nat.le_refl _) _
   refine hK _ _ ⟨hst _ _ (hst _ _ hS hb) hb2,hb2,?_⟩
   rw [set_last L pre.size hL,e3]
   exact float_done hB hQ w'.heap.size (Nat.le_trans h0 hb.size) (f+1) L a _ hL (heap_alloc_new w' _) (wpAnyE_mono (f+1) h (bl_trans hb hb2))
theorem wpAny_of_E {ops:Array Oper} : ∀ (f:Nat) (L:Array Bool) (a:Act) (w:World),wpAnyE P ops Q S f L a w→wpAny P .any ops Q f L a w
 | 0,_,_,w,h=>⟨h.1,h.2 w (Below.refl _ _)⟩
 | f+1,_,_,w,h=>⟨(h w (Below.refl _ _)).1,fun i hi=>wpOp_mono (fun a' w' h'=>wpAny_of_E f _ a' w' h'.2.2) ((h w (Below.refl _ _)).2 i hi)⟩
end
end Go.Proofs.YtolkchkedieppaaGreat
namespace Go.Proofs.YtolkchkedieppaaGreat
open Go Go.RowKit
section
variable {P:Program} {ops:Array Oper} {Q:Exit→Act→World→Prop} {S:World→Prop}
def wpTe (P:Program) (ops:Array Oper) (Q:Exit→Act→World→Prop) (S:World→Prop) (is:List Nat) (f:Nat) (L:Array Bool) (a:Act) (w:World):Prop:=wpAnyE P ops Q S f L a w
theorem wte_begin (is:List Nat) {f:Nat} {L:Array Bool} {a:Act} {w:World} (h:wpTe P ops Q S is f L a w):wpAnyE P ops Q S f L a w:=h
theorem wte_end {f:Nat} {L:Array Bool} {a:Act} {w:World} (h:wpAnyE P ops Q S f L a w):wpTe P ops Q S [] f L a w:=h
theorem wte {i:Nat} {is:List Nat} {oi:Oper} {v:Value} {f:Nat} {L:Array Bool} {a:Act} {w:World} (hst:StaysB S) (hi:ops[i]? = some oi) (hb:takeB ops L i=true)
  (hQ:∀ c a w,Q (.panic c) (a.put oi.dst v) w→Q (.panic c) a w) (hw:Region.wanted oi (yielded ops a.tmps)=true) (hv:∀ w,S w→(execOp a.eval oi).run P w = .ok (.value v) w) (hS:S w)
  (h:wpTe P ops Q S is f (L.setIfInBounds i true) (a.put oi.dst v) w):wpTe P ops Q S (i :: is) (f+1) L a w:=
 wpAnyE_take hst hi (takeB_spec hb).1 (takeB_spec hb).2.1 (takeB_spec hb).2.2 hQ (.inl ⟨hw,hv⟩) hS h
end
end Go.Proofs.YtolkchkedieppaaGreat
