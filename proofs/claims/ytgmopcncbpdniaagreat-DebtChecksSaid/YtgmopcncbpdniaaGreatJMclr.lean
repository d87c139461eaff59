import Derived.Test.YtgmopcncbpdniaaGreatJTakesE
import Derived.Test.YtgmopcncbpdniaaGreatJOwn
import Derived.Test.YtgmopcncbpdniaaGreatJClr
import Derived.Test.YtgmopcncbpdniaaGreatJRNum
import Derived.Deep.DeepCutAuto
import Derived.Deep.CutBlock
set_option linter.unusedVariables false
set_option linter.unusedSimpArgs false
namespace Go.Proofs.YtgmopcncbpdniaaGreat
open Go Go.RowKit
section
variable {P:Program} {ops:Array Oper} {Q:Exit→Act→World→Prop} {S:World→Prop}
def AvS (av:Tmp) (a a':Act) (w w2:World):Prop:=a'.tmps[av]? = a.tmps[av]?∨∀ z,a'.tmps[av]? = some (.pointer (some ⟨z,0,none⟩))→z=w.heap.size∧z<w2.heap.size
theorem avS_put {av:Tmp} {o:Oper} {a:Act} {v:Value} {w w2:World} (h:o.dst=some av→∀ z,v = .pointer (some ⟨z,0,none⟩)→z=w.heap.size∧z<w2.heap.size):AvS av a (a.put o.dst v) w w2:=by
 unfold AvS Act.put
 cases hd:o.dst with
 | none=>exact .inl rfl
 | some t=>
  by_cases e:t=av
  ·subst e
   right
   intro z hz
   by_cases hs:t<a.tmps.size
   ·simp [hs] at hz
    exact h hd z hz
   ·simp [hs] at hz
  ·left
   simp [Array.getElem?_setIfInBounds_ne e]
theorem wpOp_av {j:Nat} {oj:Oper} {av:Tmp} {zs:Array Value} {t:TypeId} (hj:ops[j]? = some oj)
  (hop:oj.dst=some av→∀ (a:Act) (w:World),(execOp a.eval oj).run P w = .ok (.value (.pointer (some ⟨w.heap.size,0,none⟩))) (w.alloc (.cells zs t)))
  {K:Act→World→Prop} {a:Act} {w:World} (h:wpOp P ops Q j K a w):wpOp P ops Q j (fun a' w'=>AvS av a a' w w'∧K a' w') a w:=by
 have und:∀ w2,AvS av a (a.put oj.dst undef) w w2:=fun w2=>avS_put (fun _ z hz=>by cases hz)
 unfold wpOp at *
 simp only [hj] at *
 split
 ·rename_i hw
  simp only [hw,if_true] at h
  rcases h with h | h
  case inr=>exact .inr h
  refine .inl ?_
  by_cases hd:oj.dst=some av
  ·unfold Oper.wp at *
   rw [hop hd a w] at *
   simp only [Oper.upon] at h ⊢
   exact⟨avS_put (fun _ z hz=>by injection hz with hz;injection hz with hz;injection hz with hz;subst hz;exact⟨rfl,by simp⟩),h⟩
  ·have hput:∀ u w2,AvS av a (a.put oj.dst u) w w2:=fun u w2=>avS_put (fun h0=>absurd h0 hd)
   unfold Oper.wp at *
   generalize (execOp a.eval oj).run P w=r at *
   cases r with
   | ok n w'=>
    cases n <;> simp only [Oper.upon] at h ⊢
    case value u=>exact⟨hput u _,h⟩
    case skip=>exact⟨hput _ _,h⟩
    case defer dd=>exact⟨avS_put (a:={ a with defers:=dd :: a.defers }) (fun h0=>absurd h0 hd),h⟩
    case enter f args=>
     refine Calls.mono h fun e w2 he=>?_
     cases e with
     | returned u=>exact⟨hput u _,he⟩
     | panicked c=>exact he
     | outgrown=>exact he
    case row row args=>exact Rows.mono h fun u w2 he=>⟨hput u _,he⟩
   | halt x w'=>
    cases x <;> simp only [Oper.upon] at h ⊢
    case panic u=>exact h
 ·rename_i hw
  simp only [hw] at h
  exact⟨und _,h⟩
end
section
variable {P:Program} {pre:Array Oper} {al:Oper} {Q:Exit→Act→World→Prop} {S:World→Prop} {d av:Tmp} {zs:Array Value} {t:TypeId}
def FloatV (B0:Nat) (d av:Tmp) (zs:Array Value) (t:TypeId) (Q:Exit→Act→World→Prop):Exit→Act→World→Prop:=
 Exit.then (fun a w=>∀ x w',Below w.heap.size w w'→B0≤x→w'.heap[x]? = some (.cells zs t (0,0))→(∀ z,a.tmps[av]? = some (.pointer (some ⟨z,0,none⟩))→z≠x)→Q .normal (a.put (some d) (.pointer (some ⟨x,0,none⟩))) w') Q
theorem oper_floatV {B0:Nat} {x:Oper} {K:Act→World→Prop} {a:Act} {w:World} (h:x.wp P a w K (FloatV B0 d av zs t Q)):x.wp P a w K Q:=by
 unfold Oper.wp at *
 generalize (execOp a.eval x).run P w=r at *
 cases r with
 | ok m w'=>cases m <;> exact h
 | halt e w'=>cases e <;> exact h
theorem wpOp_floatV {B0 i:Nat} (hB:floatB pre al d=true) (hi:i<pre.size) {K K':Act→World→Prop} (hK:∀ a w,K a w→K' a w) {a:Act} {w:World} (h:wpOp P pre (FloatV B0 d av zs t Q) i K a w):wpOp P (pre.push al) Q i K' a w:=by
 obtain⟨x,hx⟩:∃ x,pre[i]? = some x:=⟨_,Array.getElem?_eq_getElem hi⟩
 obtain⟨-,-,-,-,h5⟩:=floatB_spec hB
 obtain⟨-,g2,-,-⟩:=h5 i x hx
 unfold wpOp at *
 rw [push_get i hi,hx]
 rw [hx] at h
 simp only at h ⊢
 rw [wanted_push a g2]
 split
 ·rename_i hw
  rw [if_pos hw] at h
  rcases h with h | ⟨h1,h2⟩
  ·exact .inl (oper_floatV (Oper.wp_mono hK h))
  ·exact .inr ⟨h1,h2⟩
 ·rename_i hw
  rw [if_neg hw] at h
  exact hK _ _ h
def AvOK (P:Program) (pre:Array Oper) (av:Tmp):Prop:=∀ (i:Nat) (x:Oper),pre[i]? = some x→x.dst=some av→∃ zs t,∀ (a:Act) (w:World),(execOp a.eval x).run P w = .ok (.value (.pointer (some ⟨w.heap.size,0,none⟩))) (w.alloc (.cells zs t))
theorem wpOp_av' (hav:AvOK P pre av) {i:Nat} {x:Oper} (hx:pre[i]? = some x) {K:Act→World→Prop} {a:Act} {w:World} (h:wpOp P pre Q i K a w):wpOp P pre Q i (fun a' w'=>AvS av a a' w w'∧K a' w') a w:=by
 by_cases hd:x.dst=some av
 ·obtain⟨zs,t,hz⟩:=hav i x hx hd
  exact wpOp_av (zs:=zs) (t:=t) hx (fun _=>hz) h
 ·exact wpOp_av (zs:=#[]) (t:=0) hx (fun h0=>absurd h0 hd) h
theorem floatV_done {B0:Nat} (hB:floatB pre al d=true) (hav:AvOK P pre av) (hQ:∀ c a w v,Q (.panic c) a w→Q (.panic c) (a.put (some d) v) w) (x:Nat) (hx:B0≤x) :
  ∀ (f:Nat) (L:Array Bool) (a:Act) (w:World),L.size=pre.size→w.heap[x]? = some (.cells zs t (0,0))→(∀ z,a.tmps[av]? = some (.pointer (some ⟨z,0,none⟩))→z≠x)→
   wpAnyE P pre (FloatV B0 d av zs t Q) S f L a w→wpAnyE P (pre.push al) Q S f (L.push true) (a.put (some d) (.pointer (some ⟨x,0,none⟩))) w:=by
 obtain⟨-,-,-,h4,h5⟩:=floatB_spec hB
 have keep:∀ {w w':World},w.heap[x]? = some (.cells zs t (0,0))→Below w.heap.size w w'→w'.heap[x]? = some (.cells zs t (0,0)):=fun h hb=>by
  rw [hb.block x (Array.getElem?_eq_some_iff.1 h).1];exact h
 have rd:∀ (L:Array Bool),L.size=pre.size→Region.ready .any pre L = []→Region.ready .any (pre.push al) (L.push true) = []:=fun L hL hr=>by
  refine List.eq_nil_iff_forall_not_mem.2 (fun j hj=>?_)
  rcases (ready_float hB hL true j).1 hj with h | ⟨_,h⟩
  ·rw [hr] at h;cases h
  ·cases h
 intro f
 induction f with
 | zero=>
  intro L a w hL hw hz h
  exact⟨rd L hL h.1,fun w' hb=>h.2 w' hb x w' (Below.refl _ _) hx (keep hw hb) hz⟩
 | succ f ih=>
  intro L a w hL hw hz h w' hb
  obtain⟨g1,g2⟩:=h w' hb
  refine⟨fun h0=>?_,fun i hi=>?_⟩
  ·have:Region.ready .any pre L = []:=List.eq_nil_iff_forall_not_mem.2 (fun j hj=>by
    have:=(ready_float hB hL true j).2 (.inl hj)
    rw [h0] at this;cases this)
   exact g1 this x w' (Below.refl _ _) hx (keep hw hb) hz
  ·rcases (ready_float hB hL true i).1 hi with hi' | ⟨_,h⟩
   ·obtain⟨_,oi,hoi,_⟩:=mem_ready.1 hi'
    have his:i<pre.size:=(Array.getElem?_eq_some_iff.1 hoi).1
    obtain⟨k1,k2,k3,k4⟩:=h5 i oi hoi
    have s1:=wpOp_floatV (al:=al) hB his (K':=fun a' w2=>AvS av a a' w' w2∧S w2∧Below w'.heap.size w' w2∧wpAnyE P pre (FloatV B0 d av zs t Q) S f (L.setIfInBounds i true) a' w2) (fun _ _ h=>h) (wpOp_av' hav hoi (g2 i hi'))
    have s2:=wpOp_put (ops:=pre.push al) (d:=d) (v:=.pointer (some ⟨x,0,none⟩)) (by rw [push_get i his];exact hoi) (by rw [looks_push k2];exact k3) k4 (fun cs b=>Region.noSelect_spec h4 i oi cs b hoi) (fun c a w h=>hQ c a w _ h) s1
    refine wpOp_mono (fun a2 w2 h3=>?_) s2
    obtain⟨a1,rfl,q0,q1,q2,q3⟩:=h3
    rw [set_early' L true i (by omega)]
    refine⟨q1,q2,ih _ a1 w2 (by simpa using hL) (keep (keep hw hb) q2) (fun z h6=>?_) q3⟩
    rcases q0 with q0 | q0
    ·exact hz z (by rw [←q0];exact h6)
    ·have h7:=(q0 z h6).1
     have h8:=(Array.getElem?_eq_some_iff.1 (keep hw hb)).1
     omega
   ·cases h
theorem wpAnyE_floatV {B0:Nat} (hst:StaysB S) (hB:floatB pre al d=true) (hav:AvOK P pre av) (hz:∀ (a:Act) (w:World),(execOp a.eval al).run P w = .ok (.value (.pointer (some ⟨w.heap.size,0,none⟩))) (w.alloc (.cells zs t)))
  (hQ:∀ c a w v,Q (.panic c) a w→Q (.panic c) (a.put (some d) v) w) :
  ∀ (f:Nat) (L:Array Bool) (a:Act) (w:World),L.size=pre.size→B0≤w.heap.size→S w→(∀ z,a.tmps[av]? = some (.pointer (some ⟨z,0,none⟩))→z<w.heap.size)→
   wpAnyE P pre (FloatV B0 d av zs t Q) S f L a w→wpAnyE P (pre.push al) Q S (f+1) (L.push false) a w:=by
 obtain⟨e1,e2,e3,e4,e5⟩:=floatB_spec hB
 have make:∀ (f:Nat) (L:Array Bool) (a:Act) (w w':World),L.size=pre.size→B0≤w.heap.size→S w→Below w.heap.size w w'→(∀ z,a.tmps[av]? = some (.pointer (some ⟨z,0,none⟩))→z<w.heap.size)→
   wpAnyE P pre (FloatV B0 d av zs t Q) S f L a w→wpOp P (pre.push al) Q pre.size (fun a' w2=>S w2∧Below w'.heap.size w' w2∧wpAnyE P (pre.push al) Q S f ((L.push false).setIfInBounds pre.size true) a' w2) a w':=by
  intro f L a w w' hL h0 hS hb hv h
  refine wpOp_step (o:=al) (by rw [Array.getElem?_push,if_pos rfl]) (fun K hK=>?_)
  have hw:Region.wanted al (yielded (pre.push al) a.tmps)=true:=by simp [Region.wanted,e2]
  rw [if_pos hw]
  unfold Oper.wp
  rw [hz]
  simp only [Oper.upon]
  have hb2:Below w'.heap.size w' (w'.alloc (.cells zs t)):=(Below.refl _ _).alloc (Nat.le_refl _) _
  refine hK _ _ ⟨hst _ _ (hst _ _ hS hb) hb2,hb2,?_⟩
  rw [set_last L pre.size hL,e3]
  exact floatV_done hB hav hQ w'.heap.size (Nat.le_trans h0 hb.size) f L a _ hL (heap_alloc_new w' _) (fun z h6=>by have:=hv z h6;have:=hb.size;omega) (wpAnyE_mono f h (bl_trans hb hb2))
 intro f
 induction f with
 | zero=>
  intro L a w hL h0 hS hv h w' hb
  have mem:=(ready_float hB hL false pre.size).2 (.inr ⟨rfl,rfl⟩)
  refine⟨fun h2=>(by rw [h2] at mem;cases mem),fun i hi=>?_⟩
  rcases (ready_float hB hL false i).1 hi with hi' | ⟨rfl,_⟩
  ·rw [h.1] at hi';cases hi'
  ·exact make 0 L a w w' hL h0 hS hb hv h
 | succ f ih=>
  intro L a w hL h0 hS hv h w' hb
  have mem:=(ready_float hB hL false pre.size).2 (.inr ⟨rfl,rfl⟩)
  refine⟨fun h2=>(by rw [h2] at mem;cases mem),fun i hi=>?_⟩
  rcases (ready_float hB hL false i).1 hi with hi' | ⟨rfl,_⟩
  ·obtain⟨_,oi,hoi,_⟩:=mem_ready.1 hi'
   have his:i<pre.size:=(Array.getElem?_eq_some_iff.1 hoi).1
   have s1:=wpOp_floatV (al:=al) hB his (K':=fun a' w2=>AvS av a a' w' w2∧S w2∧Below w'.heap.size w' w2∧wpAnyE P pre (FloatV B0 d av zs t Q) S f (L.setIfInBounds i true) a' w2) (fun _ _ h=>h) (wpOp_av' hav hoi ((h w' hb).2 i hi'))
   refine wpOp_mono (fun a2 w2 h3=>?_) s1
   obtain⟨q0,q1,q2,q3⟩:=h3
   rw [set_early' L false i (by omega)]
   have hsz:=q2.size
   -- the block of slot av lies below what is there now
   by_cases hlt:∀ z,a2.tmps[av]? = some (.pointer (some ⟨z,0,none⟩))→z<w2.heap.size
   ·exact⟨q1,q2,ih _ a2 w2 (by simpa using hL) (Nat.le_trans (Nat.le_trans h0 hb.size) q2.size) q1 hlt q3⟩
   ·exfalso
    refine hlt (fun z h6=>?_)
    rcases q0 with q0 | q0
    ·have:=hv z (by rw [←q0];exact h6)
     have:=hb.size
     omega
    ·exact (q0 z h6).2
  ·exact make (f+1) L a w w' hL h0 hS hb hv h
end
end Go.Proofs.YtgmopcncbpdniaaGreat
namespace Go.Proofs.YtgmopcncbpdniaaGreat
open Go Go.RowKit
theorem cell_stays {w w':World} {p:Addr} {v:Value} (h:w.cell? p=some v) (hb:Below w.heap.size w w'):w'.cell? p=some v:=by
 rw [hb.cell (World.block_lt_of_cell? w p (by rw [h]))];exact h
theorem own4_block {w:World} {x:Nat} {a b c d:Value} {t:TypeId} (h:w.heap[x]? = some (.cells #[a,b,c,d] t (0,0))):Own4 w x a b c d:=
 ⟨by simp [World.cell?,h],by simp [World.cell?,h],by simp [World.cell?,h],by simp [World.cell?,h],fun o=>by simp [World.frozen?,h],(Array.getElem?_eq_some_iff.1 h).1⟩
section
variable {P:Program} {ops:Array Oper} {Q:Exit→Act→World→Prop} {S:World→Prop} {al:Oper} {d:Tmp} {zs:Array Value} {t:TypeId}
theorem clL_none {pre:Array Oper} (n:Nat):ClL pre (Array.replicate n false):=fun j x hj=>by
 exfalso
 simp [Array.getD] at hj
theorem rep_push (n:Nat):(Array.replicate n false).push false=Array.replicate (n+1) false:=by simp [Array.replicate_succ]
theorem wp_region_box {id:Nat} {a:Act} {w:World} (hst:StaysB S) (hm:P.follows .mixedOrders=true) (hB:(decide (1<ops.size) && lastB ops && floatB ops.pop.pop al d)=true) (hal:ops.pop.back? = some al)
  (hz:∀ (a:Act) (w:World),(execOp a.eval al).run P w = .ok (.value (.pointer (some ⟨w.heap.size,0,none⟩))) (w.alloc (.cells zs t)))
  (hQ:∀ c a w v,Q (.panic c) a w→Q (.panic c) (a.put (some d) v) w) (hS:S w.drew)
  (h:S w.drew→wpAnyE P ops.pop.pop (FloatQ w.heap.size d zs t (LastQ P ops ops.pop.size Q)) S ops.pop.pop.size (Array.replicate ops.pop.pop.size false) a w.drew):(Code.region id ops true).wp P Q a w:=by
 simp only [Bool.and_eq_true,decide_eq_true_eq] at hB
 obtain⟨⟨h0,hB⟩,hF⟩:=hB
 obtain⟨ops1,st,rfl⟩:∃ pre o,ops=Array.push pre o:=Array.eq_push_of_size_ne_zero (by omega)
 obtain⟨pre,al',rfl⟩:∃ pre o,ops1=Array.push pre o:=Array.eq_push_of_size_ne_zero (by simp at h0;omega)
 simp only [Array.pop_push] at *
 rw [Array.back?_push] at hal
 injection hal with hal
 subst hal
 refine wp_region_any hm ?_
 have h1:=wpAnyE_float (P:=P) (Q:=LastQ P ((pre.push al').push st) (pre.push al').size Q) (S:=S) (t:=t) (zs:=zs) (B0:=w.heap.size) hst hF hz hQ pre.size (Array.replicate pre.size false) a w.drew (by simp) (Nat.le_refl _) hS (h hS)
 rw [rep_push] at h1
 have h2:=wpAny_last hB (pre.size+1) (Array.replicate (pre.size+1) false) a w.drew (by simp) (clL_none _) (wpAny_of_E _ _ _ _ (by simpa using h1))
 rw [rep_push] at h2
 simpa using h2
theorem wp_region_box2 {al2:Oper} {d2:Tmp} {id:Nat} {a:Act} {w:World} (hst:StaysB S) (hm:P.follows .mixedOrders=true)
  (hB:(decide (3<ops.size) && lastB ops && lastB ops.pop && floatB ops.pop.pop.pop al2 d2 && floatB ops.pop.pop.pop.pop al d)=true) (hal:ops.pop.pop.pop.back? = some al) (hal2:ops.pop.pop.back? = some al2)
  (hz:∀ (a:Act) (w:World),(execOp a.eval al).run P w = .ok (.value (.pointer (some ⟨w.heap.size,0,none⟩))) (w.alloc (.cells zs t)))
  (hz2:∀ (a:Act) (w:World),(execOp a.eval al2).run P w = .ok (.value (.pointer (some ⟨w.heap.size,0,none⟩))) (w.alloc (.cells zs t)))
  (hdst:ops.pop.pop.pop.pop.all (fun x=>decide (x.dst≠some d))=true)
  (hQ:∀ c a w d v,Q (.panic c) a w→Q (.panic c) (a.put (some d) v) w) (hS:S w.drew) (hv:∀ z,a.tmps[d]? = some (.pointer (some ⟨z,0,none⟩))→z<w.heap.size)
  (h:S w.drew→wpAnyE P ops.pop.pop.pop.pop (FloatQ w.heap.size d zs t (FloatV w.heap.size d2 d zs t (LastQ P ops.pop ops.pop.pop.size (LastQ P ops ops.pop.size Q)))) S ops.pop.pop.pop.pop.size (Array.replicate ops.pop.pop.pop.pop.size false) a w.drew):(Code.region id ops true).wp P Q a w:=by
 simp only [Bool.and_eq_true,decide_eq_true_eq] at hB
 obtain⟨⟨⟨⟨h0,hB⟩,hB2⟩,hF2⟩,hF⟩:=hB
 obtain⟨ops1,st,rfl⟩:∃ pre o,ops=Array.push pre o:=Array.eq_push_of_size_ne_zero (by omega)
 obtain⟨ops2,st2,rfl⟩:∃ pre o,ops1=Array.push pre o:=Array.eq_push_of_size_ne_zero (by simp at h0;omega)
 obtain⟨ops3,al2',rfl⟩:∃ pre o,ops2=Array.push pre o:=Array.eq_push_of_size_ne_zero (by simp at h0;omega)
 obtain⟨pre,al',rfl⟩:∃ pre o,ops3=Array.push pre o:=Array.eq_push_of_size_ne_zero (by simp at h0;omega)
 simp only [Array.pop_push] at *
 rw [Array.back?_push] at hal hal2
 injection hal with hal
 injection hal2 with hal2
 subst hal hal2
 have hav:AvOK P (pre.push al') d:=fun i x hx hd=>by
  rw [Array.getElem?_push] at hx
  split at hx
  ·injection hx with hx;subst hx;exact⟨zs,t,hz⟩
  ·have:=Array.all_eq_true_iff_forall_mem.1 hdst x (Array.mem_of_getElem? hx)
   simp at this
   exact absurd hd this
 refine wp_region_any hm ?_
 have h1:=wpAnyE_float (P:=P) (Q:=FloatV w.heap.size d2 d zs t (LastQ P (((pre.push al').push al2').push st2) ((pre.push al').push al2').size (LastQ P ((((pre.push al').push al2').push st2).push st) (((pre.push al').push al2').push st2).size Q))) (S:=S) (t:=t) (zs:=zs) (B0:=w.heap.size) hst hF hz (fun c a w v h=>hQ c a w d v h) pre.size (Array.replicate pre.size false) a w.drew (by simp) (Nat.le_refl _) hS (h hS)
 rw [rep_push] at h1
 have h2:=wpAnyE_floatV (P:=P) (Q:=LastQ P (((pre.push al').push al2').push st2) ((pre.push al').push al2').size (LastQ P ((((pre.push al').push al2').push st2).push st) (((pre.push al').push al2').push st2).size Q)) (S:=S) (t:=t) (zs:=zs) (B0:=w.heap.size) hst hF2 hav hz2 (fun c a w v h=>hQ c a w d2 v h) (pre.size+1) (Array.replicate (pre.size+1) false) a w.drew (by simp) (Nat.le_refl _) hS hv h1
 rw [rep_push] at h2
 have h3:=wpAny_last hB2 (pre.size+1+1) (Array.replicate (pre.size+1+1) false) a w.drew (by simp) (clL_none _) (by
  have:=wpAny_of_E _ _ _ _ h2
  simpa using this)
 rw [rep_push] at h3
 have h4:=wpAny_last hB (pre.size+1+1+1) (Array.replicate (pre.size+1+1+1) false) a w.drew (by simp) (clL_none _) (by simpa using h3)
 rw [rep_push] at h4
 simpa using h4
end
end Go.Proofs.YtgmopcncbpdniaaGreat
namespace Go.Proofs.YtgmopcncbpdniaaGreat
open Go.RowKit
attribute [local go_sem ↓] Go.wp_at_zero Go.wp_at_succ
theorem cmpQ_gt (a b:Rat):decide (0<cmpQ a b)=decide (b<a):=by
 have h:(0<cmpQ a b)↔b<a:=by
  have h1:0<cmpQ a b↔0<a.num*(b.den:Int) - b.num*(a.den:Int):=by
   unfold cmpQ sgnZ
   split
   ·omega
   ·split <;> omega
  rw [h1,Rat.lt_iff]
  omega
 exact decide_eq_decide.2 h
theorem cmpQ_ne (a b:Rat):(cmpQ a b != 0)=decide (a≠b):=by
 have h:cmpQ a b=0↔a=b:=by
  have h0:=cmpQ_lt a b
  have h1:=cmpQ_gt a b
  rw [decide_eq_decide] at h0 h1
  constructor
  ·intro e
   rw [e] at h0 h1
   have h2:¬ a<b:=fun q=>by have:=h0.2 q;omega
   have h3:¬ b<a:=fun q=>by have:=h1.2 q;omega
   grind
  ·intro e
   subst e
   have h2:¬ cmpQ a a<0:=fun q=>Rat.lt_irrefl (h0.1 q)
   have h3:¬ 0<cmpQ a a:=fun q=>Rat.lt_irrefl (h1.1 q)
   omega
 by_cases e:a=b
 ·rw [h.2 e];simp [e]
 ·have:cmpQ a b≠0:=fun q=>e (h.1 q)
  simp [e,this]
theorem sgnQ_neg (a:Rat):decide (sgnZ a.num<0)=decide (a<0):=by
 have h:sgnZ a.num<0↔a<0:=by
  have h1:sgnZ a.num<0↔a.num<0:=by unfold sgnZ;split;omega;split <;> omega
  rw [h1,Rat.lt_iff]
  simp
 exact decide_eq_decide.2 h
def wantQ (n:Nat) (cash:Nat→Int) (d:Nat→Nat→Int) (q:Nat→Rat) (i:Nat):Rat:=if totQ n d i<hasP n (cashQ cash) (shQ n d) q i then totQ n d i else hasP n (cashQ cash) (shQ n d) q i
def GdQ (n:Nat) (cash:Nat→Int) (d:Nat→Nat→Int) (q:Nat→Rat) (i:Nat):Prop:=0≤q i∧q i=wantQ n cash d q i
set_option maxHeartbeats 8000000 in
set_option maxRecDepth 100000 in
theorem mclr_any (b n pc P:Nat) (cash:Nat→Int) (d:Nat→Nat→Int) (vc vd vt:Value) (q:Nat→Rat) (K:Nat) (r:Bool) (hr:r=true↔∀ i,i<n→GdQ n cash d q i) (w:World) (hm:IsMkt w b n cash d vc vd vt) (hn:n≤8) (hR:Rng n cash d) (hp:IsRats w P 0 n q K) (hK4:4≤K) (hK:K≤100000000) :
  Calls Tryz.prog 67 #[.pointer (some ⟨b,0,none⟩),.slice (some ⟨P,0,none⟩) n pc] w fun e w'=>e = .returned (.bool r)∧Below w.heap.size w w':=by
 have HM:=Lib.hid hm
 have HR:=Lib.hid hR
 have HP:=Lib.hid hp
 have HRR:=Lib.hid hr
 obtain⟨c0,-,-,c3,-,-,⟨ta,tb,t_o,tc,rfl,hts⟩,hlt⟩:=hm
 have HTS:=Lib.hid hts
 have HC3:=Lib.hid (And.intro c3 hlt)
 have KW0:=Lib.hid (Below.refl w.heap.size w)
 clear hR hp hr c0 c3 hts
 go_enter Tryz.func67,Tryz.ntmps67
 go_wp2
 go_loopw [7,11] (fun v7 v11 wr=>∃ k:Nat,k≤n∧v11 = .int .i64 (k:Nat)∧Hid (∀ z,v7 = .pointer (some ⟨z,0,none⟩)→z<wr.heap.size)∧Hid (∀ i,i<k→GdQ n cash d q i)∧Hid (Below w.heap.size w wr)) (fun _ v11 _=>n - (intOf v11).toNat)
 case atStart=>exact⟨0,by omega,rfl,Lib.hid (fun z e=>by simp [undef] at e),Lib.hid (fun i hi=>by omega),KW0⟩
 case round=>
  clear KW0
  obtain⟨k,hk,rfl,HV0,HG,KW⟩:=hrel
  by_cases h:k<n
  ·have e1:decide ((k:Int)<(n:Int))=true:=by simpa using h
   have e1n:decide (k<n)=true:=by simpa using h
   have ixp:=fun W=>rowIx P n pc k h W
   obtain⟨sx,ax,nx,cx,ax2,nx2,cx2,PX0,KX0⟩:=HP.out k h
   rw [Nat.zero_add] at PX0
   have KX:=Lib.hid (KX0.mono KW.out (Nat.le_refl _))
   obtain⟨p0,p1,p2,p3,-⟩:=PX0.below KW.out PX0.lt
   have HX0:=Lib.hid (own4_new wr wr.heap.size rfl (.bool sx) (.slice ax nx cx) (.bool false) (.slice ax2 nx2 cx2) 92)
   have KB:=Lib.hid (boxes1 wr (.cells #[.bool sx,.slice ax nx cx,.bool false,.slice ax2 nx2 cx2] 92))
   obtain⟨Ti,hTi⟩:∃ Ti,Ti=sumF (d k) n:=⟨_,rfl⟩
   have HTi:=Lib.hid hTi
   have HT:Hid (-4611686018427387904<Ti∧Ti<4611686018427387904):=Lib.hid (by have:=HR.out.tot k h;omega)
   have HCS:Hid (0≤cash k∧cash k≤100000):=Lib.hid (by have:=HR.out.csh k h;omega)
   have HDS:Hid (∀ j,j<n→0≤d j k∧d j k≤1000∧0≤sumF (d j) n∧sumF (d j) n≤100000):=Lib.hid (fun j hj=>⟨(HR.out.deb j k hj h).1,(HR.out.deb j k hj h).2,(HR.out.tot j hj).1,(HR.out.tot j hj).2⟩)
   have ixt:=fun W=>ixI HTS.out k tc h W
   clear PX0 KX0
   go_wp2
   have KW1:=Lib.hid (KW.out.trans (KB.out.mono KW.out.size))
   have KX:=Lib.hid (KX.out.mono KB.out (Nat.le_refl _))
   have HV7:=Lib.hid (fun z e=>Nat.lt_of_lt_of_le (HV0.out z e) KB.out.size)
   obtain⟨xb,hxb⟩:∃ xb,xb=wr.heap.size:=⟨_,rfl⟩
   have HXB:Hid (w.heap.size≤xb):=Lib.hid (by rw [hxb];exact KW.out.size)
   rw [←hxb] at HX0 ⊢
   clear p0 p1 p2 p3 hxb KB
   generalize wr.alloc (.cells #[.bool sx,.slice ax nx cx,.bool false,.slice ax2 nx2 cx2] 92)=wb at *
   have HMb:=Lib.hid (HM.out.mono KW1.out (Nat.le_refl _))
   have HPb:=Lib.hid (HP.out.mono KW1.out (Nat.le_refl _))
   have yt:w.cell? ⟨tb,t_o+k,none⟩=some (.int .i64 Ti):=by have:=HTS.out.cell k h;simp only [ic] at this;rw [hTi];exact this
   have HYT:=Lib.hid (And.intro yt (HTS.out.lt (by omega)))
   clear yt hTi
   have keepR:Hid (∀ w',Below wb.heap.size wb w'→w'.cell? ⟨b,3,none⟩=some (.slice ta n tc)∧w'.cell? ⟨tb,t_o+k,none⟩=some (.int .i64 Ti)):=
    Lib.hid (fun w' hb=>⟨bel1 (KW1.out.trans (hb.mono KW1.out.size)) HC3.out.1 HC3.out.2,bel1 (KW1.out.trans (hb.mono KW1.out.size)) HYT.out.1 HYT.out.2⟩)
   have VL:=Lib.hid (Below.refl wb.heap.size wb).drew
   have HST:StaysB (fun w'=>w'.cell? ⟨b,3,none⟩=some (.slice ta n tc)∧w'.cell? ⟨tb,t_o+k,none⟩=some (.int .i64 Ti)):=fun w1 w2 h hb=>⟨cell_stays h.1 hb,cell_stays h.2 hb⟩
   refine wp_region_box2 HST (d:=7) (d2:=8) (zs:=#[.bool false,.slice none 0 0,.bool false,.slice none 0 0]) (t:=92) (by kernel_rfl) (by kernel_rfl) rfl rfl (fun a w=>by kernel_rfl) (fun a w=>by kernel_rfl) (by kernel_rfl) (fun _ _ _ _ _ h=>h) (keepR.out _ VL.out) (fun z e=>HV7.out z (by simpa using e)) (fun hHeld=>?_)
   simp only [List.pop_toArray,List.dropLast_cons_cons,List.dropLast_singleton]
   refine wte_begin [0,1,2,4,5,6,7,8,9,10] ?_
   iterate 10 (refine wte (v:=?_) HST rfl (by kernel_rfl) (fun _ _ _ h=>h) (by kernel_rfl) ?_ hHeld ?_;rotate_left;(focus intro w0 hSw;(try dsimp only at hSw);go_simp;all_goals (with_reducible rfl));simp only [Act.put,List.setIfInBounds_toArray,List.set_cons_zero,List.set_cons_succ])
   refine wte_end ?_
   refine wpAnyE_ready (rs:=[3]) (by kernel_rfl) (by simp) (fun we hext=>?_)
   have VL:=Lib.hid (bl_trans VL.out hext)
   have hHeld:=HST _ _ hHeld hext
   refine AllReadyE.cons rfl (fun Kn hKn=>?_) AllReadyE.nil
   go_simp
   (go_at_call 51;(with_reducible refine (has_any b n k cash d _ _ _ _ (HMb.out.mono VL.out (Nat.le_refl _)) h hn HDS.out HCS.out P 0 pc q K (HPb.out.mono VL.out (Nat.le_refl _)) hK4 (by omega)).mono ?_);rintro e w5 ⟨r5,rfl,hr5,hbc⟩;obtain⟨s5,a5,n5,c5,b5,l5,k5,rfl,QK5⟩:=hr5.shape;clear hr5)
   have VL:=Lib.hid (bl_trans VL.out hbc)
   go_wp2_with fail
   refine hKn.out _ _ ?_ ?_ (fun hHeld=>?_)
   ·(try dsimp only);exact keepR.out _ VL.out
   ·exact hbc
   clear hKn Kn hext hbc
   (try simp only [Act.put,List.setIfInBounds_toArray,List.set_cons_zero,List.set_cons_succ])
   refine wpAnyE_ready (rs:=[11]) (by kernel_rfl) (by simp) (fun we hext=>?_)
   have VL:=Lib.hid (bl_trans VL.out hext)
   have hHeld:=HST _ _ hHeld hext
   have QK5:=Lib.hid (QK5.out.mono hext (Nat.le_refl _))
   refine AllReadyE.cons rfl (fun Kn hKn=>?_) AllReadyE.nil
   go_simp
   (go_at_call 59;(with_reducible refine (rat_whole Ti HT.out.1 HT.out.2 _).mono ?_);rintro e w7 ⟨r7,rfl,hr7,hbc⟩;obtain⟨s7,a7,n7,c7,b7,l7,k7,rfl,QK7⟩:=hr7.shape;clear hr7)
   have QK5:=Lib.hid (QK5.out.mono hbc (Nat.le_refl _))
   have VL:=Lib.hid (bl_trans VL.out hbc)
   go_wp2_with fail
   refine hKn.out _ _ ?_ ?_ (fun hHeld=>?_)
   ·(try dsimp only);exact keepR.out _ VL.out
   ·exact hbc
   clear hKn Kn hext hbc
   (try simp only [Act.put,List.setIfInBounds_toArray,List.set_cons_zero,List.set_cons_succ])
   refine wpAnyE_done (by kernel_rfl) (fun we hext=>?_) _
   intro x wx hbx hx0 hxz y wy hby hy0 hyz hne
   have hxy:=hne x (by rfl)
   have hyx:=Ne.symm hxy
   have VL:=Lib.hid (bl_trans (bl_trans (bl_trans VL.out hext) hbx) hby)
   have QK5:=Lib.hid (((QK5.out.mono hext (Nat.le_refl _)).mono hbx (Nat.le_refl _)).mono hby (Nat.le_refl _))
   have QK7:=Lib.hid (((QK7.out.mono hext (Nat.le_refl _)).mono hbx (Nat.le_refl _)).mono hby (Nat.le_refl _))
   have OX:=Lib.hid ((own4_block hxz).below hby (own4_block hxz).lt)
   have OY:=Lib.hid (own4_block hyz)
   obtain⟨x0,x1,x2,x3,xf,xl⟩:=OX.out
   obtain⟨z0,z1,z2,z3,zf,zl⟩:=OY.out
   clear hne hext hbx hby hxz hyz ixp ixt
   simp only [Act.put,List.setIfInBounds_toArray,List.set_cons_zero,List.set_cons_succ]
   refine lastQ_step rfl (fun Kn hKn=>?_)
   go_simp
   refine hKn.out _ _ ?_
   clear hKn Kn
   (try simp only [Act.put,List.setIfInBounds_toArray,List.set_cons_zero,List.set_cons_succ])
   refine lastQ_step rfl (fun Kn hKn=>?_)
   go_simp
   refine hKn.out _ _ ?_
   clear hKn Kn
   (try simp only [Act.put,List.setIfInBounds_toArray,List.set_cons_zero,List.set_cons_succ])
   have OY1:=OY.out.set4 x (.bool s5) (.slice a5 n5 c5) (.bool false) (.slice b5 l5 k5) hxy
   have hxw:=HX0.out.lt
   have OX8:=Lib.hid ((OX.out.anew (.bool s5) (.slice a5 n5 c5) (.bool false) (.slice b5 l5 k5)).set4 y (.bool s7) (.slice a7 n7 c7) (.bool false) (.slice b7 l7 k7) hyx)
   have OY8:=Lib.hid (OY1.anew (.bool s7) (.slice a7 n7 c7) (.bool false) (.slice b7 l7 k7))
   have Q5:=Lib.hid ((QK5.out.into' (.bool s5) (.slice a5 n5 c5) (.bool false) (.slice b5 l5 k5) OX.out).into' (.bool s7) (.slice a7 n7 c7) (.bool false) (.slice b7 l7 k7) OY1)
   have Q7:=Lib.hid ((QK7.out.into' (.bool s5) (.slice a5 n5 c5) (.bool false) (.slice b5 l5 k5) OX.out).into' (.bool s7) (.slice a7 n7 c7) (.bool false) (.slice b7 l7 k7) OY1)
   have HV8:=Lib.hid (((HX0.out.below VL.out HX0.out.lt).set4 x (.bool s5) (.slice a5 n5 c5) (.bool false) (.slice b5 l5 k5) (by omega)).set4 y (.bool s7) (.slice a7 n7 c7) (.bool false) (.slice b7 l7 k7) (by omega))
   have KX8:=Lib.hid (((KX.out.mono VL.out (Nat.le_refl _)).into' (.bool s5) (.slice a5 n5 c5) (.bool false) (.slice b5 l5 k5) OX.out).into' (.bool s7) (.slice a7 n7 c7) (.bool false) (.slice b7 l7 k7) OY1)
   have KW8:=Lib.hid (below_set4q (below_set4q (KW1.out.trans (VL.out.mono KW1.out.size)) (b:=x) (by have:=KW1.out.size;omega) (.bool s5) (.slice a5 n5 c5) (.bool false) (.slice b5 l5 k5)) (b:=y) (by have:=KW1.out.size;omega) (.bool s7) (.slice a7 n7 c7) (.bool false) (.slice b7 l7 k7))
   have HXX:Hid (xb≠x∧xb≠y∧w.heap.size≤x):=Lib.hid ⟨by omega,by omega,by have:=KW1.out.size;omega⟩
   clear OY1 QK5 QK7 OX OY x0 x1 x2 x3 xf xl z0 z1 z2 z3 zf zl hHeld HST VL HMb HPb keepR HX0 KX KW1 hxw
   generalize ((((((((wy.setCell ⟨x,0,none⟩ (.bool s5)).setCell ⟨x,1,none⟩ (.slice a5 n5 c5)).setCell ⟨x,2,none⟩ (.bool false)).setCell ⟨x,3,none⟩ (.slice b5 l5 k5)).setCell ⟨y,0,none⟩ (.bool s7)).setCell ⟨y,1,none⟩ (.slice a7 n7 c7)).setCell ⟨y,2,none⟩ (.bool false)).setCell ⟨y,3,none⟩ (.slice b7 l7 k7))=w8 at *
   have HH:Hid (hasQ n cash d q k=hasP n (cashQ cash) (shQ n d) q k):=Lib.hid (hasQ_eq ..)
   have HT2:Hid (((Ti:Int):Rat)=totQ n d k):=Lib.hid (by rw [HTi.out];rfl)
   rw [HH.out] at Q5
   rw [HT2.out] at Q7
   obtain⟨x0,x1,x2,x3,xf,xl⟩:=OX8.out
   obtain⟨z0,z1,z2,z3,zf,zl⟩:=OY8.out
   go_upto_if 31 with (first | (go_at_call 62;(with_reducible refine (rat_cmp_val _ _ (hasP n (cashQ cash) (shQ n d) q k) (totQ n d k) (512*(K+1)) _ _ Q5.out (Q7.out.le (by omega)) (by omega) rfl).mono ?_);rintro e w9 ⟨rfl,hb9⟩))
   have OX8:=Lib.hid (OX8.out.below hb9 OX8.out.lt)
   have OY8:=Lib.hid (OY8.out.below hb9 OY8.out.lt)
   have HV8:=Lib.hid (HV8.out.below hb9 HV8.out.lt)
   have Q5:=Lib.hid (Q5.out.mono hb9 (Nat.le_refl _))
   have Q7:=Lib.hid (Q7.out.mono hb9 (Nat.le_refl _))
   have KX8:=Lib.hid (KX8.out.mono hb9 (Nat.le_refl _))
   have KW8:=Lib.hid (KW8.out.trans (hb9.mono KW8.out.size))
   clear x0 x1 x2 x3 xf xl z0 z1 z2 z3 zf zl hb9
   go_cut [] (fun wx=>∃ s9 a9 n9 c9 b9 l9 k9,Hid (Own4 wx x (.bool s9) (.slice a9 n9 c9) (.bool false) (.slice b9 l9 k9))∧Hid (RatIs wx (.agg #[.bool s9,.slice a9 n9 c9,.bool false,.slice b9 l9 k9]) (wantQ n cash d q k) (512*(K+1)))∧Hid (Own4 wx xb (.bool sx) (.slice ax nx cx) (.bool false) (.slice ax2 nx2 cx2))∧Hid (RatIs wx (.agg #[.bool sx,.slice ax nx cx,.bool false,.slice ax2 nx2 cx2]) (q k) K)∧Hid (Below w.heap.size w wx))
   case first=>
    obtain⟨x0,x1,x2,x3,xf,xl⟩:=OX8.out
    obtain⟨z0,z1,z2,z3,zf,zl⟩:=OY8.out
    by_cases hgt:totQ n d k<hasP n (cashQ cash) (shQ n d) q k
    ·have e2:decide (0<cmpQ (hasP n (cashQ cash) (shQ n d) q k) (totQ n d k))=true:=by rw [cmpQ_gt];simpa using hgt
     have e2p:0<cmpQ (hasP n (cashQ cash) (shQ n d) q k) (totQ n d k):=by simpa using e2
     have HW:Hid (wantQ n cash d q k=totQ n d k):=Lib.hid (by unfold wantQ;rw [if_pos hgt])
     clear hgt
     go_wp2_with fail
     go_meet
     case rel=>exact⟨s7,a7,n7,c7,b7,l7,k7,Lib.hid (OX8.out.anew (.bool s7) (.slice a7 n7 c7) (.bool false) (.slice b7 l7 k7)),Lib.hid (by rw [HW.out];exact (Q7.out.le (by omega)).into' (.bool s7) (.slice a7 n7 c7) (.bool false) (.slice b7 l7 k7) OX8.out),Lib.hid (HV8.out.set4 x (.bool s7) (.slice a7 n7 c7) (.bool false) (.slice b7 l7 k7) (Ne.symm HXX.out.1)),Lib.hid (KX8.out.into' (.bool s7) (.slice a7 n7 c7) (.bool false) (.slice b7 l7 k7) OX8.out),Lib.hid (below_set4q KW8.out HXX.out.2.2 (.bool s7) (.slice a7 n7 c7) (.bool false) (.slice b7 l7 k7))⟩
    ·have e2:decide (0<cmpQ (hasP n (cashQ cash) (shQ n d) q k) (totQ n d k))=false:=by rw [cmpQ_gt];simpa using hgt
     have e2p:cmpQ (hasP n (cashQ cash) (shQ n d) q k) (totQ n d k)≤0:=by simpa using e2
     have HW:Hid (wantQ n cash d q k=hasP n (cashQ cash) (shQ n d) q k):=Lib.hid (by unfold wantQ;rw [if_neg hgt])
     clear hgt
     go_wp2_with fail
     go_meet
     case rel=>exact⟨s5,a5,n5,c5,b5,l5,k5,OX8,Lib.hid (by rw [HW.out];exact Q5.out),HV8,KX8,KW8⟩
   case rest=>
    clear OX8 OY8 HV8 KX8 KW8 Q5 Q7
    obtain⟨s9,a9,n9,c9,b9,l9,k9,OX,QW,OV,KX,KW⟩:=hcut
    obtain⟨x0,x1,x2,x3,xf,xl⟩:=OX.out
    obtain⟨z0,z1,z2,z3,zf,zl⟩:=OV.out
    by_cases hneg:q k<0
    ·have e2:decide (sgnZ (q k).num<0)=true:=by rw [sgnQ_neg];simpa using hneg
     obtain rfl:r=false:=bool_false HRR.out (fun g=>absurd hneg (Rat.not_lt.2 (g k h).1))
     clear hneg
     go_wp2_with (first | (go_at_call 109;(with_reducible refine (rat_sign _ (q k) K _ KX.out).mono ?_);rintro e w9 ⟨rfl,hb9⟩))
     go_ret
     exact⟨rfl,KW.out.trans (hb9.mono KW.out.size)⟩
    ·have e2:decide (sgnZ (q k).num<0)=false:=by rw [sgnQ_neg];simpa using hneg
     have HN:=Lib.hid hneg
     clear hneg
     by_cases heq:q k=wantQ n cash d q k
     ·have e3:(cmpQ (q k) (wantQ n cash d q k) != 0)=false:=by rw [cmpQ_ne];simpa using heq
      have HE:=Lib.hid heq
      clear heq
      go_wp2_with (first
       | (go_at_call 109;(with_reducible refine (rat_sign _ (q k) K _ KX.out).mono ?_);rintro e w9 ⟨rfl,hb9⟩;have OX:=Lib.hid (OX.out.below hb9 OX.out.lt);have OV:=Lib.hid (OV.out.below hb9 OV.out.lt);have QW:=Lib.hid (QW.out.mono hb9 (Nat.le_refl _));have KX:=Lib.hid (KX.out.mono hb9 (Nat.le_refl _));have KW:=Lib.hid (KW.out.trans (hb9.mono KW.out.size));clear x0 x1 x2 x3 xf xl z0 z1 z2 z3 zf zl hb9;obtain⟨x0,x1,x2,x3,xf,xl⟩:=OX.out;obtain⟨z0,z1,z2,z3,zf,zl⟩:=OV.out)
       | (go_at_call 62;(with_reducible refine (rat_cmp_val _ _ (q k) (wantQ n cash d q k) (512*(K+1)) _ _ (KX.out.le (by omega)) QW.out (by omega) rfl).mono ?_);rintro e w10 ⟨rfl,hb10⟩;have HXL:=Lib.hid (OX.out.below hb10 OX.out.lt).lt;have KW:=Lib.hid (KW.out.trans (hb10.mono KW.out.size));clear hb10))
      go_roundw
      case rel=>exact⟨k+1,by omega,by go_num,Lib.hid (fun z e=>by injection e with e;injection e with e;injection e with e;subst e;exact HXL.out),Lib.hid (ext_lt HG.out ⟨Rat.not_lt.1 HN.out,HE.out⟩),KW⟩
      case measure=>simp [intOf];omega
     ·have e3:(cmpQ (q k) (wantQ n cash d q k) != 0)=true:=by rw [cmpQ_ne];simpa using heq
      obtain rfl:r=false:=bool_false HRR.out (fun g=>heq (g k h).2)
      clear heq
      go_wp2_with (first
       | (go_at_call 109;(with_reducible refine (rat_sign _ (q k) K _ KX.out).mono ?_);rintro e w9 ⟨rfl,hb9⟩;have OX:=Lib.hid (OX.out.below hb9 OX.out.lt);have OV:=Lib.hid (OV.out.below hb9 OV.out.lt);have QW:=Lib.hid (QW.out.mono hb9 (Nat.le_refl _));have KX:=Lib.hid (KX.out.mono hb9 (Nat.le_refl _));have KW:=Lib.hid (KW.out.trans (hb9.mono KW.out.size));clear x0 x1 x2 x3 xf xl z0 z1 z2 z3 zf zl hb9;obtain⟨x0,x1,x2,x3,xf,xl⟩:=OX.out;obtain⟨z0,z1,z2,z3,zf,zl⟩:=OV.out)
       | (go_at_call 62;(with_reducible refine (rat_cmp_val _ _ (q k) (wantQ n cash d q k) (512*(K+1)) _ _ (KX.out.le (by omega)) QW.out (by omega) rfl).mono ?_);rintro e w10 ⟨rfl,hb10⟩;have HXL:=Lib.hid (OX.out.below hb10 OX.out.lt).lt;have KW:=Lib.hid (KW.out.trans (hb10.mono KW.out.size));clear hb10))
      go_ret
      exact⟨rfl,KW.out⟩
  ·obtain rfl:n=k:=by omega
   have e1:decide ((n:Int)<(n:Int))=false:=by simp
   obtain rfl:r=true:=HRR.out.2 HG.out
   go_wp2
   go_ret
   exact⟨rfl,KW.out⟩
end Go.Proofs.YtgmopcncbpdniaaGreat
