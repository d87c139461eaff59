import Derived.Test.YtgmopcncbpdniaaGreatITakesE
import Derived.Test.YtgmopcncbpdniaaGreatIOwn
import Derived.Test.YtgmopcncbpdniaaGreatIRNum
import Derived.Test.YtgmopcncbpdniaaGreatIMade
set_option linter.unusedVariables false
set_option linter.unusedSimpArgs false
namespace Go.Proofs.YtgmopcncbpdniaaGreat
open Go Go.RowKit
section
variable {P:Program} {ops:Array Oper} {Q:Exit→Act→World→Prop} {S:World→Prop}
def AvS (av:Tmp) (a a':Act) (w w2:World):Prop:=a'.tmps[av]? = a.tmps[av]?∨∀ z,a'.tmps[av]? = some (.pointer (some ⟨z,0,none⟩))→z=w.heap.size∧z<w2.heap.size
theorem avS_put {av:Tmp} {o:Oper} {a:Act} {v:Value} {w w2:World} (h:o.dst=some av→∀ z,v = .pointer (some ⟨z,0,none⟩)→z=w.heap.size∧z<w2.heap.size):AvS av a (a.put o.dst v) w w2:=by
 unfold AvS Act.put
 cases hd:o.dst with
 | none=>exact .inl rfl
 | some t=>
  by_cases e:t=av
  ·subst e
   right
   intro z hz
   by_cases hs:t<a.tmps.size
   ·simp [hs] at hz
    exact h hd z hz
   ·simp [hs] at hz
  ·left
   simp [Array.getElem?_setIfInBounds_ne e]
theorem wpOp_av {j:Nat} {oj:Oper} {av:Tmp} {zs:Array Value} {t:TypeId} (hj:ops[j]? = some oj)
  (hop:oj.dst=some av→∀ (a:Act) (w:World),(execOp a.eval oj).run P w = .ok (.value (.pointer (some ⟨w.heap.size,0,none⟩))) (w.alloc (.cells zs t)))
  {K:Act→World→Prop} {a:Act} {w:World} (h:wpOp P ops Q j K a w):wpOp P ops Q j (fun a' w'=>AvS av a a' w w'∧K a' w') a w:=by
 have und:∀ w2,AvS av a (a.put oj.dst undef) w w2:=fun w2=>avS_put (fun _ z hz=>by cases hz)
 unfold wpOp at *
 simp only [hj] at *
 split
 ·rename_i hw
  simp only [hw,if_true] at h
  rcases h with h | h
  case inr=>exact .inr h
  refine .inl ?_
  by_cases hd:oj.dst=some av
  ·unfold Oper.wp at *
   rw [hop hd a w] at *
   simp only [Oper.upon] at h ⊢
   exact⟨avS_put (fun _ z hz=>by injection hz with hz;injection hz with hz;injection hz with hz;subst hz;exact⟨rfl,by simp⟩),h⟩
  ·have hput:∀ u w2,AvS av a (a.put oj.dst u) w w2:=fun u w2=>avS_put (fun h0=>absurd h0 hd)
   unfold Oper.wp at *
   generalize (execOp a.eval oj).run P w=r at *
   cases r with
   | ok n w'=>
    cases n <;> simp only [Oper.upon] at h ⊢
    case value u=>exact⟨hput u _,h⟩
    case skip=>exact⟨hput _ _,h⟩
    case defer dd=>exact⟨avS_put (a:={ a with defers:=dd :: a.defers }) (fun h0=>absurd h0 hd),h⟩
    case enter f args=>
     refine Calls.mono h fun e w2 he=>?_
     cases e with
     | returned u=>exact⟨hput u _,he⟩
     | panicked c=>exact he
     | outgrown=>exact he
    case row row args=>exact Rows.mono h fun u w2 he=>⟨hput u _,he⟩
   | halt x w'=>
    cases x <;> simp only [Oper.upon] at h ⊢
    case panic u=>exact h
 ·rename_i hw
  simp only [hw] at h
  exact⟨und _,h⟩
end
section
variable {P:Program} {pre:Array Oper} {al:Oper} {Q:Exit→Act→World→Prop} {S:World→Prop} {d av:Tmp} {zs:Array Value} {t:TypeId}
def FloatV (B0:Nat) (d av:Tmp) (zs:Array Value) (t:TypeId) (Q:Exit→Act→World→Prop):Exit→Act→World→Prop:=
 Exit.then (fun a w=>∀ x w',Below w.heap.size w w'→B0≤x→w'.heap[x]? = some (.cells zs t (0,0))→(∀ z,a.tmps[av]? = some (.pointer (some ⟨z,0,none⟩))→z≠x)→Q .normal (a.put (some d) (.pointer (some ⟨x,0,none⟩))) w') Q
theorem oper_floatV {B0:Nat} {x:Oper} {K:Act→World→Prop} {a:Act} {w:World} (h:x.wp P a w K (FloatV B0 d av zs t Q)):x.wp P a w K Q:=by
 unfold Oper.wp at *
 generalize (execOp a.eval x).run P w=r at *
 cases r with
 | ok m w'=>cases m <;> exact h
 | halt e w'=>cases e <;> exact h
theorem wpOp_floatV {B0 i:Nat} (hB:floatB pre al d=true) (hi:i<pre.size) {K K':Act→World→Prop} (hK:∀ a w,K a w→K' a w) {a:Act} {w:World} (h:wpOp P pre (FloatV B0 d av zs t Q) i K a w):wpOp P (pre.push al) Q i K' a w:=by
 obtain⟨x,hx⟩:∃ x,pre[i]? = some x:=⟨_,Array.getElem?_eq_getElem hi⟩
 obtain⟨-,-,-,-,h5⟩:=floatB_spec hB
 obtain⟨-,g2,-,-⟩:=h5 i x hx
 unfold wpOp at *
 rw [push_get i hi,hx]
 rw [hx] at h
 simp only at h ⊢
 rw [wanted_push a g2]
 split
 ·rename_i hw
  rw [if_pos hw] at h
  rcases h with h | ⟨h1,h2⟩
  ·exact .inl (oper_floatV (Oper.wp_mono hK h))
  ·exact .inr ⟨h1,h2⟩
 ·rename_i hw
  rw [if_neg hw] at h
  exact hK _ _ h
def AvOK (P:Program) (pre:Array Oper) (av:Tmp):Prop:=∀ (i:Nat) (x:Oper),pre[i]? = some x→x.dst=some av→∃ zs t,∀ (a:Act) (w:World),(execOp a.eval x).run P w = .ok (.value (.pointer (some ⟨w.heap.size,0,none⟩))) (w.alloc (.cells zs t))
theorem wpOp_av' (hav:AvOK P pre av) {i:Nat} {x:Oper} (hx:pre[i]? = some x) {K:Act→World→Prop} {a:Act} {w:World} (h:wpOp P pre Q i K a w):wpOp P pre Q i (fun a' w'=>AvS av a a' w w'∧K a' w') a w:=by
 by_cases hd:x.dst=some av
 ·obtain⟨zs,t,hz⟩:=hav i x hx hd
  exact wpOp_av (zs:=zs) (t:=t) hx (fun _=>hz) h
 ·exact wpOp_av (zs:=#[]) (t:=0) hx (fun h0=>absurd h0 hd) h
theorem floatV_done {B0:Nat} (hB:floatB pre al d=true) (hav:AvOK P pre av) (hQ:∀ c a w v,Q (.panic c) a w→Q (.panic c) (a.put (some d) v) w) (x:Nat) (hx:B0≤x) :
  ∀ (f:Nat) (L:Array Bool) (a:Act) (w:World),L.size=pre.size→w.heap[x]? = some (.cells zs t (0,0))→(∀ z,a.tmps[av]? = some (.pointer (some ⟨z,0,none⟩))→z≠x)→
   wpAnyE P pre (FloatV B0 d av zs t Q) S f L a w→wpAnyE P (pre.push al) Q S f (L.push true) (a.put (some d) (.pointer (some ⟨x,0,none⟩))) w:=by
 obtain⟨-,-,-,h4,h5⟩:=floatB_spec hB
 have keep:∀ {w w':World},w.heap[x]? = some (.cells zs t (0,0))→Below w.heap.size w w'→w'.heap[x]? = some (.cells zs t (0,0)):=fun h hb=>by
  rw [hb.block x (Array.getElem?_eq_some_iff.1 h).1];exact h
 have rd:∀ (L:Array Bool),L.size=pre.size→Region.ready .any pre L = []→Region.ready .any (pre.push al) (L.push true) = []:=fun L hL hr=>by
  refine List.eq_nil_iff_forall_not_mem.2 (fun j hj=>?_)
  rcases (ready_float hB hL true j).1 hj with h | ⟨_,h⟩
  ·rw [hr] at h;cases h
  ·cases h
 intro f
 induction f with
 | zero=>
  intro L a w hL hw hz h
  exact⟨rd L hL h.1,fun w' hb=>h.2 w' hb x w' (Below.refl _ _) hx (keep hw hb) hz⟩
 | succ f ih=>
  intro L a w hL hw hz h w' hb
  obtain⟨g1,g2⟩:=h w' hb
  refine⟨fun h0=>?_,fun i hi=>?_⟩
  ·have:Region.ready .any pre L = []:=List.eq_nil_iff_forall_not_mem.2 (fun j hj=>by
    have:=(ready_float hB hL true j).2 (.inl hj)
    rw [h0] at this;cases this)
   exact g1 this x w' (Below.refl _ _) hx (keep hw hb) hz
  ·rcases (ready_float hB hL true i).1 hi with hi' | ⟨_,h⟩
   ·obtain⟨_,oi,hoi,_⟩:=mem_ready.1 hi'
    have his:i<pre.size:=(Array.getElem?_eq_some_iff.1 hoi).1
    obtain⟨k1,k2,k3,k4⟩:=h5 i oi hoi
    have s1:=wpOp_floatV (al:=al) hB his (K':=fun a' w2=>AvS av a a' w' w2∧S w2∧Below w'.heap.size w' w2∧wpAnyE P pre (FloatV B0 d av zs t Q) S f (L.setIfInBounds i true) a' w2) (fun _ _ h=>h) (wpOp_av' hav hoi (g2 i hi'))
    have s2:=wpOp_put (ops:=pre.push al) (d:=d) (v:=.pointer (some ⟨x,0,none⟩)) (by rw [push_get i his];exact hoi) (by rw [looks_push k2];exact k3) k4 (fun cs b=>Region.noSelect_spec h4 i oi cs b hoi) (fun c a w h=>hQ c a w _ h) s1
    refine wpOp_mono (fun a2 w2 h3=>?_) s2
    obtain⟨a1,rfl,q0,q1,q2,q3⟩:=h3
    rw [set_early' L true i (by omega)]
    refine⟨q1,q2,ih _ a1 w2 (by simpa using hL) (keep (keep hw hb) q2) (fun z h6=>?_) q3⟩
    rcases q0 with q0 | q0
    ·exact hz z (by rw [←q0];exact h6)
    ·have h7:=(q0 z h6).1
     have h8:=(Array.getElem?_eq_some_iff.1 (keep hw hb)).1
     omega
   ·cases h
theorem wpAnyE_floatV {B0:Nat} (hst:StaysB S) (hB:floatB pre al d=true) (hav:AvOK P pre av) (hz:∀ (a:Act) (w:World),(execOp a.eval al).run P w = .ok (.value (.pointer (some ⟨w.heap.size,0,none⟩))) (w.alloc (.cells zs t)))
  (hQ:∀ c a w v,Q (.panic c) a w→Q (.panic c) (a.put (some d) v) w) :
  ∀ (f:Nat) (L:Array Bool) (a:Act) (w:World),L.size=pre.size→B0≤w.heap.size→S w→(∀ z,a.tmps[av]? = some (.pointer (some ⟨z,0,none⟩))→z<w.heap.size)→
   wpAnyE P pre (FloatV B0 d av zs t Q) S f L a w→wpAnyE P (pre.push al) Q S (f+1) (L.push false) a w:=by
 obtain⟨e1,e2,e3,e4,e5⟩:=floatB_spec hB
 have make:∀ (f:Nat) (L:Array Bool) (a:Act) (w w':World),L.size=pre.size→B0≤w.heap.size→S w→Below w.heap.size w w'→(∀ z,a.tmps[av]? = some (.pointer (some ⟨z,0,none⟩))→z<w.heap.size)→
   wpAnyE P pre (FloatV B0 d av zs t Q) S f L a w→wpOp P (pre.push al) Q pre.size (fun a' w2=>S w2∧Below w'.heap.size w' w2∧wpAnyE P (pre.push al) Q S f ((L.push false).setIfInBounds pre.size true) a' w2) a w':=by
  intro f L a w w' hL h0 hS hb hv h
  refine wpOp_step (o:=al) (by rw [Array.getElem?_push,if_pos rfl]) (fun K hK=>?_)
  have hw:Region.wanted al (yielded (pre.push al) a.tmps)=true:=by simp [Region.wanted,e2]
  rw [if_pos hw]
  unfold Oper.wp
  rw [hz]
  simp only [Oper.upon]
  have hb2:Below w'.heap.size w' (w'.alloc (.cells zs t)):=(Below.refl _ _).alloc (Nat.le_refl _) _
  refine hK _ _ ⟨hst _ _ (hst _ _ hS hb) hb2,hb2,?_⟩
  rw [set_last L pre.size hL,e3]
  exact floatV_done hB hav hQ w'.heap.size (Nat.le_trans h0 hb.size) f L a _ hL (heap_alloc_new w' _) (fun z h6=>by have:=hv z h6;have:=hb.size;omega) (wpAnyE_mono f h (bl_trans hb hb2))
 intro f
 induction f with
 | zero=>
  intro L a w hL h0 hS hv h w' hb
  have mem:=(ready_float hB hL false pre.size).2 (.inr ⟨rfl,rfl⟩)
  refine⟨fun h2=>(by rw [h2] at mem;cases mem),fun i hi=>?_⟩
  rcases (ready_float hB hL false i).1 hi with hi' | ⟨rfl,_⟩
  ·rw [h.1] at hi';cases hi'
  ·exact make 0 L a w w' hL h0 hS hb hv h
 | succ f ih=>
  intro L a w hL h0 hS hv h w' hb
  have mem:=(ready_float hB hL false pre.size).2 (.inr ⟨rfl,rfl⟩)
  refine⟨fun h2=>(by rw [h2] at mem;cases mem),fun i hi=>?_⟩
  rcases (ready_float hB hL false i).1 hi with hi' | ⟨rfl,_⟩
  ·obtain⟨_,oi,hoi,_⟩:=mem_ready.1 hi'
   have his:i<pre.size:=(Array.getElem?_eq_some_iff.1 hoi).1
   have s1:=wpOp_floatV (al:=al) hB his (K':=fun a' w2=>AvS av a a' w' w2∧S w2∧Below w'.heap.size w' w2∧wpAnyE P pre (FloatV B0 d av zs t Q) S f (L.setIfInBounds i true) a' w2) (fun _ _ h=>h) (wpOp_av' hav hoi ((h w' hb).2 i hi'))
   refine wpOp_mono (fun a2 w2 h3=>?_) s1
   obtain⟨q0,q1,q2,q3⟩:=h3
   rw [set_early' L false i (by omega)]
   have hsz:=q2.size
   -- the block of slot av lies below what is there now
   by_cases hlt:∀ z,a2.tmps[av]? = some (.pointer (some ⟨z,0,none⟩))→z<w2.heap.size
   ·exact⟨q1,q2,ih _ a2 w2 (by simpa using hL) (Nat.le_trans (Nat.le_trans h0 hb.size) q2.size) q1 hlt q3⟩
   ·exfalso
    refine hlt (fun z h6=>?_)
    rcases q0 with q0 | q0
    ·have:=hv z (by rw [←q0];exact h6)
     have:=hb.size
     omega
    ·exact (q0 z h6).2
  ·exact make (f+1) L a w w' hL h0 hS hb hv h
end
end Go.Proofs.YtgmopcncbpdniaaGreat
namespace Go.Proofs.YtgmopcncbpdniaaGreat
open Go Go.RowKit
theorem cell_stays {w w':World} {p:Addr} {v:Value} (h:w.cell? p=some v) (hb:Below w.heap.size w w'):w'.cell? p=some v:=by
 rw [hb.cell (World.block_lt_of_cell? w p (by rw [h]))];exact h
theorem own4_block {w:World} {x:Nat} {a b c d:Value} {t:TypeId} (h:w.heap[x]? = some (.cells #[a,b,c,d] t (0,0))):Own4 w x a b c d:=
 ⟨by simp [World.cell?,h],by simp [World.cell?,h],by simp [World.cell?,h],by simp [World.cell?,h],fun o=>by simp [World.frozen?,h],(Array.getElem?_eq_some_iff.1 h).1⟩
section
variable {P:Program} {ops:Array Oper} {Q:Exit→Act→World→Prop} {S:World→Prop} {al:Oper} {d:Tmp} {zs:Array Value} {t:TypeId}
theorem clL_none {pre:Array Oper} (n:Nat):ClL pre (Array.replicate n false):=fun j x hj=>by
 exfalso
 simp [Array.getD] at hj
theorem rep_push (n:Nat):(Array.replicate n false).push false=Array.replicate (n+1) false:=by simp [Array.replicate_succ]
theorem wp_region_box {id:Nat} {a:Act} {w:World} (hst:StaysB S) (hm:P.follows .mixedOrders=true) (hB:(decide (1<ops.size) && lastB ops && floatB ops.pop.pop al d)=true) (hal:ops.pop.back? = some al)
  (hz:∀ (a:Act) (w:World),(execOp a.eval al).run P w = .ok (.value (.pointer (some ⟨w.heap.size,0,none⟩))) (w.alloc (.cells zs t)))
  (hQ:∀ c a w v,Q (.panic c) a w→Q (.panic c) (a.put (some d) v) w) (hS:S w.drew)
  (h:S w.drew→wpAnyE P ops.pop.pop (FloatQ w.heap.size d zs t (LastQ P ops ops.pop.size Q)) S ops.pop.pop.size (Array.replicate ops.pop.pop.size false) a w.drew):(Code.region id ops true).wp P Q a w:=by
 simp only [Bool.and_eq_true,decide_eq_true_eq] at hB
 obtain⟨⟨h0,hB⟩,hF⟩:=hB
 obtain⟨ops1,st,rfl⟩:∃ pre o,ops=Array.push pre o:=Array.eq_push_of_size_ne_zero (by omega)
 obtain⟨pre,al',rfl⟩:∃ pre o,ops1=Array.push pre o:=Array.eq_push_of_size_ne_zero (by simp at h0;omega)
 simp only [Array.pop_push] at *
 rw [Array.back?_push] at hal
 injection hal with hal
 subst hal
 refine wp_region_any hm ?_
 have h1:=wpAnyE_float (P:=P) (Q:=LastQ P ((pre.push al').push st) (pre.push al').size Q) (S:=S) (t:=t) (zs:=zs) (B0:=w.heap.size) hst hF hz hQ pre.size (Array.replicate pre.size false) a w.drew (by simp) (Nat.le_refl _) hS (h hS)
 rw [rep_push] at h1
 have h2:=wpAny_last hB (pre.size+1) (Array.replicate (pre.size+1) false) a w.drew (by simp) (clL_none _) (wpAny_of_E _ _ _ _ (by simpa using h1))
 rw [rep_push] at h2
 simpa using h2
theorem wp_region_box2 {al2:Oper} {d2:Tmp} {id:Nat} {a:Act} {w:World} (hst:StaysB S) (hm:P.follows .mixedOrders=true)
  (hB:(decide (3<ops.size) && lastB ops && lastB ops.pop && floatB ops.pop.pop.pop al2 d2 && floatB ops.pop.pop.pop.pop al d)=true) (hal:ops.pop.pop.pop.back? = some al) (hal2:ops.pop.pop.back? = some al2)
  (hz:∀ (a:Act) (w:World),(execOp a.eval al).run P w = .ok (.value (.pointer (some ⟨w.heap.size,0,none⟩))) (w.alloc (.cells zs t)))
  (hz2:∀ (a:Act) (w:World),(execOp a.eval al2).run P w = .ok (.value (.pointer (some ⟨w.heap.size,0,none⟩))) (w.alloc (.cells zs t)))
  (hdst:ops.pop.pop.pop.pop.all (fun x=>decide (x.dst≠some d))=true)
  (hQ:∀ c a w d v,Q (.panic c) a w→Q (.panic c) (a.put (some d) v) w) (hS:S w.drew) (hv:∀ z,a.tmps[d]? = some (.pointer (some ⟨z,0,none⟩))→z<w.heap.size)
  (h:S w.drew→wpAnyE P ops.pop.pop.pop.pop (FloatQ w.heap.size d zs t (FloatV w.heap.size d2 d zs t (LastQ P ops.pop ops.pop.pop.size (LastQ P ops ops.pop.size Q)))) S ops.pop.pop.pop.pop.size (Array.replicate ops.pop.pop.pop.pop.size false) a w.drew):(Code.region id ops true).wp P Q a w:=by
 simp only [Bool.and_eq_true,decide_eq_true_eq] at hB
 obtain⟨⟨⟨⟨h0,hB⟩,hB2⟩,hF2⟩,hF⟩:=hB
 obtain⟨ops1,st,rfl⟩:∃ pre o,ops=Array.push pre o:=Array.eq_push_of_size_ne_zero (by omega)
 obtain⟨ops2,st2,rfl⟩:∃ pre o,ops1=Array.push pre o:=Array.eq_push_of_size_ne_zero (by simp at h0;omega)
 obtain⟨ops3,al2',rfl⟩:∃ pre o,ops2=Array.push pre o:=Array.eq_push_of_size_ne_zero (by simp at h0;omega)
 obtain⟨pre,al',rfl⟩:∃ pre o,ops3=Array.push pre o:=Array.eq_push_of_size_ne_zero (by simp at h0;omega)
 simp only [Array.pop_push] at *
 rw [Array.back?_push] at hal hal2
 injection hal with hal
 injection hal2 with hal2
 subst hal hal2
 have hav:AvOK P (pre.push al') d:=fun i x hx hd=>by
  rw [Array.getElem?_push] at hx
  split at hx
  ·injection hx with hx;subst hx;exact⟨zs,t,hz⟩
  ·have:=Array.all_eq_true_iff_forall_mem.1 hdst x (Array.mem_of_getElem? hx)
   simp at this
   exact absurd hd this
 refine wp_region_any hm ?_
 have h1:=wpAnyE_float (P:=P) (Q:=FloatV w.heap.size d2 d zs t (LastQ P (((pre.push al').push al2').push st2) ((pre.push al').push al2').size (LastQ P ((((pre.push al').push al2').push st2).push st) (((pre.push al').push al2').push st2).size Q))) (S:=S) (t:=t) (zs:=zs) (B0:=w.heap.size) hst hF hz (fun c a w v h=>hQ c a w d v h) pre.size (Array.replicate pre.size false) a w.drew (by simp) (Nat.le_refl _) hS (h hS)
 rw [rep_push] at h1
 have h2:=wpAnyE_floatV (P:=P) (Q:=LastQ P (((pre.push al').push al2').push st2) ((pre.push al').push al2').size (LastQ P ((((pre.push al').push al2').push st2).push st) (((pre.push al').push al2').push st2).size Q)) (S:=S) (t:=t) (zs:=zs) (B0:=w.heap.size) hst hF2 hav hz2 (fun c a w v h=>hQ c a w d2 v h) (pre.size+1) (Array.replicate (pre.size+1) false) a w.drew (by simp) (Nat.le_refl _) hS hv h1
 rw [rep_push] at h2
 have h3:=wpAny_last hB2 (pre.size+1+1) (Array.replicate (pre.size+1+1) false) a w.drew (by simp) (clL_none _) (by
  have:=wpAny_of_E _ _ _ _ h2
  simpa using this)
 rw [rep_push] at h3
 have h4:=wpAny_last hB (pre.size+1+1+1) (Array.replicate (pre.size+1+1+1) false) a w.drew (by simp) (clL_none _) (by simpa using h3)
 rw [rep_push] at h4
 simpa using h4
end
end Go.Proofs.YtgmopcncbpdniaaGreat
namespace Go.Proofs.YtgmopcncbpdniaaGreat
open Go.RowKit
attribute [local go_sem ↓] Go.wp_at_zero Go.wp_at_succ
def dueQ (n:Nat) (cash:Nat→Int) (d:Nat→Nat→Int) (q:Nat→Rat) (i:Nat):Rat:=if hasP n (cashQ cash) (shQ n d) q i<totQ n d i then hasP n (cashQ cash) (shQ n d) q i else totQ n d i
set_option maxHeartbeats 4000000 in
set_option maxRecDepth 100000 in
theorem due_any (vc vd vp:Value) (n i:Nat) (cash:Nat→Int) (d:Nat→Nat→Int) (q:Nat→Rat) (K:Nat) (w:World) (hc:Ints w vc n cash) (hm:Mat w vd n (fun _=>n) d) (hp:VSl w vp n q K) (hi:i<n) (hn:n≤8) (hC:∀ i,i<n→0≤cash i∧cash i≤1000) (hd:∀ i j,0≤d i j) (hR:∀ i j,i<n→j<n→d i j≤1000) (hT:∀ i,i<n→sumF (d i) n≤100000) (hK5:5≤K) (hK:K≤100000000) :
  Calls Tryz.prog 63 #[vc,vd,vp,.int .i64 (i:Nat)] w fun ex w'=>∃ r,ex = .returned r∧QV w' r (dueQ n cash d q i) (1024*(K+1)+1)∧Below w.heap.size w w':=by
 have HDM:=Lib.hid hm
 have HP:=Lib.hid hp
 obtain⟨da,b,o,dc,ra,rb,ro,rc,rfl,hdm⟩:=hm
 obtain⟨ca,cb,co,cc,rfl,hcs⟩:=hc
 have HM:=Lib.hid hdm
 have HCS:=Lib.hid hcs
 have HD0:=Lib.hid hd
 have HR0:=Lib.hid hR
 have HT0:=Lib.hid hT
 have HC0:=Lib.hid hC
 have HROW0:=Lib.hid (hdm.row i hi).ints
 have y0:=hdm.top.cell i hi
 have y1:=hcs.cell i hi
 simp only [ic] at y1
 have HY:=Lib.hid (And.intro y0 y1)
 have HYL:=Lib.hid (And.intro (hdm.top.lt (by omega)) (hcs.lt (by omega)))
 clear hdm hcs hd hR hT hC hp y0 y1
 have RO0:=Lib.hid (own4_new w w.heap.size rfl (.bool false) (.slice none 0 0) (.bool false) (.slice none 0 0) 40)
 have KW0:=Lib.hid (boxes1 w (.cells #[.bool false,.slice none 0 0,.bool false,.slice none 0 0] 40))
 have ixc:=fun W=>ixI HCS.out i cc hi W
 have ixd:=fun W=>ixM HM.out.top i dc hi W
 have HW:Hid (-9223372036854775808≤cash i∧cash i<9223372036854775808):=Lib.hid (by have:=HC0.out i hi;omega)
 have HT:Hid (-9223372036854775808≤sumF (d i) n∧sumF (d i) n<9223372036854775808):=Lib.hid (by have:=HT0.out i hi;have:=sumF_nn (HD0.out i) n;omega)
 have HDT:Hid (∀ l,l<n→-(1099511627776:Int)≤d i l∧d i l≤1099511627776):=Lib.hid (fun l hl=>by have:=HR0.out i l hi hl;have:=HD0.out i l;omega)
 go_enter Tryz.func63,Tryz.ntmps63
 go_wp2_with fail
 have HDM:=Lib.hid (HDM.out.mono KW0.out (Nat.le_refl _))
 have HP:=Lib.hid (HP.out.mono KW0.out (Nat.le_refl _))
 have HROW:=Lib.hid (HROW0.out.mono KW0.out (Nat.le_refl _))
 generalize w.alloc (.cells #[.bool false,.slice none 0 0,.bool false,.slice none 0 0] 40)=wb at *
 have keepR:Hid (∀ w',Below wb.heap.size wb w'→w'.cell? ⟨cb,co+i,none⟩=some (.int .i64 (cash i))∧w'.cell? ⟨b,o+i,none⟩=some (.slice (ra i) n (rc i))):=
  Lib.hid (fun w' hb=>⟨bel1 hb (bel1 KW0.out HY.out.2 HYL.out.2) (Nat.lt_of_lt_of_le HYL.out.2 KW0.out.size),bel1 hb (bel1 KW0.out HY.out.1 HYL.out.1) (Nat.lt_of_lt_of_le HYL.out.1 KW0.out.size)⟩)
 have VL:=Lib.hid (Below.refl wb.heap.size wb).drew
 have HST:StaysB (fun w'=>w'.cell? ⟨cb,co+i,none⟩=some (.int .i64 (cash i))∧w'.cell? ⟨b,o+i,none⟩=some (.slice (ra i) n (rc i))):=fun w1 w2 h hb=>⟨cell_stays h.1 hb,cell_stays h.2 hb⟩
 refine wp_region_box2 HST (d:=9) (d2:=10) (zs:=#[.bool false,.slice none 0 0,.bool false,.slice none 0 0]) (t:=40) (by kernel_rfl) (by kernel_rfl) rfl rfl (fun a w=>by kernel_rfl) (fun a w=>by kernel_rfl) (by kernel_rfl) (fun _ _ _ _ _ h=>h) (keepR.out _ VL.out) (by simp [undef]) (fun hHeld=>?_)
 simp only [List.pop_toArray,List.dropLast_cons_cons,List.dropLast_singleton]
 refine wte_begin [0,1,2,3,5,6,7,10,11,12,13] ?_
 iterate 11 (refine wte (v:=?_) HST rfl (by kernel_rfl) (fun _ _ _ h=>h) (by kernel_rfl) ?_ hHeld ?_;rotate_left;(focus intro w0 hSw;(try dsimp only at hSw);go_simp;all_goals (with_reducible rfl));simp only [Act.put,List.setIfInBounds_toArray,List.set_cons_zero,List.set_cons_succ])
 refine wte_end ?_
 refine wpAnyE_ready (rs:=[4]) (by kernel_rfl) (by simp) (fun we hext=>?_)
 have VL:=Lib.hid (bl_trans VL.out hext)
 have hHeld:=HST _ _ hHeld hext
 refine AllReadyE.cons rfl (fun Kn hKn=>?_) AllReadyE.nil
 go_simp
 (go_at_call 16;(with_reducible refine (qv_whole (cash i) _ HW.out.1 HW.out.2).mono ?_);rintro e w3 ⟨r3,rfl,hr3,hbc⟩;obtain⟨s3,a3,n3,c3,t3,b3,l3,k3,rfl,QK3⟩:=hr3.shape;clear hr3)
 have VL:=Lib.hid (bl_trans VL.out hbc)
 go_wp2_with fail
 refine hKn.out _ _ ?_ ?_ (fun hHeld=>?_)
 ·(try dsimp only);exact keepR.out _ VL.out
 ·exact hbc
 clear hKn Kn hext hbc
 (try simp only [Act.put,List.setIfInBounds_toArray,List.set_cons_zero,List.set_cons_succ])
 refine wpAnyE_ready (rs:=[8]) (by kernel_rfl) (by simp) (fun we hext=>?_)
 have VL:=Lib.hid (bl_trans VL.out hext)
 have hHeld:=HST _ _ hHeld hext
 have QK3:=Lib.hid (QK3.out.mono hext (Nat.le_refl _))
 refine AllReadyE.cons rfl (fun Kn hKn=>?_) AllReadyE.nil
 go_simp
 (go_at_call 19;(with_reducible refine (recv_any _ _ n i d q K _ (HDM.out.mono VL.out (Nat.le_refl _)) (HP.out.mono VL.out (Nat.le_refl _)) hi hn HD0.out HR0.out HT0.out hK5 hK).mono ?_);rintro e w4 ⟨r4,rfl,hr4,hbc⟩;have hr4:=QV.of hr4;obtain⟨s4,a4,n4,c4,t4,b4,l4,k4,rfl,QK4⟩:=hr4.shape;clear hr4)
 have QK3:=Lib.hid (QK3.out.mono hbc (Nat.le_refl _))
 have VL:=Lib.hid (bl_trans VL.out hbc)
 go_wp2_with fail
 refine hKn.out _ _ ?_ ?_ (fun hHeld=>?_)
 ·(try dsimp only);exact keepR.out _ VL.out
 ·exact hbc
 clear hKn Kn hext hbc
 (try simp only [Act.put,List.setIfInBounds_toArray,List.set_cons_zero,List.set_cons_succ])
 refine wpAnyE_ready (rs:=[9]) (by kernel_rfl) (by simp) (fun we hext=>?_)
 have VL:=Lib.hid (bl_trans VL.out hext)
 have hHeld:=HST _ _ hHeld hext
 have QK3:=Lib.hid (QK3.out.mono hext (Nat.le_refl _))
 have QK4:=Lib.hid (QK4.out.mono hext (Nat.le_refl _))
 refine AllReadyE.cons rfl (fun Kn hKn=>?_) AllReadyE.nil
 go_simp
 (go_at_call 18;(with_reducible refine (qv_add _ _ ((cash i:Int):Rat) (sumQ (fun j=>q j*shQ n d j i) n) (512*(K+1)) _ (QK3.out.le (by omega)) QK4.out (by omega)).mono ?_);rintro e w5 ⟨r5,rfl,hr5,hbc⟩;obtain⟨s5,a5,n5,c5,t5,b5,l5,k5,rfl,QK5⟩:=hr5.shape;clear hr5)
 have QK3:=Lib.hid (QK3.out.mono hbc (Nat.le_refl _))
 have QK4:=Lib.hid (QK4.out.mono hbc (Nat.le_refl _))
 have VL:=Lib.hid (bl_trans VL.out hbc)
 go_wp2_with fail
 refine hKn.out _ _ ?_ ?_ (fun hHeld=>?_)
 ·(try dsimp only);exact keepR.out _ VL.out
 ·exact hbc
 clear hKn Kn hext hbc
 (try simp only [Act.put,List.setIfInBounds_toArray,List.set_cons_zero,List.set_cons_succ])
 refine wpAnyE_ready (rs:=[14]) (by kernel_rfl) (by simp) (fun we hext=>?_)
 have VL:=Lib.hid (bl_trans VL.out hext)
 have hHeld:=HST _ _ hHeld hext
 have QK5:=Lib.hid (QK5.out.mono hext (Nat.le_refl _))
 refine AllReadyE.cons rfl (fun Kn hKn=>?_) AllReadyE.nil
 go_simp
 (go_at_call 17;(with_reducible refine (total_any _ n (d i) _ (HROW.out.mono VL.out (Nat.le_refl _)) (by omega) HDT.out).mono ?_);rintro e w6 ⟨rfl,hd6⟩;have hbc:=hd6.below we.heap.size;clear hd6)
 have QK5:=Lib.hid (QK5.out.mono hbc (Nat.le_refl _))
 have VL:=Lib.hid (bl_trans VL.out hbc)
 go_wp2_with fail
 refine hKn.out _ _ ?_ ?_ (fun hHeld=>?_)
 ·(try dsimp only);exact keepR.out _ VL.out
 ·exact hbc
 clear hKn Kn hext hbc
 (try simp only [Act.put,List.setIfInBounds_toArray,List.set_cons_zero,List.set_cons_succ])
 refine wpAnyE_ready (rs:=[15]) (by kernel_rfl) (by simp) (fun we hext=>?_)
 have VL:=Lib.hid (bl_trans VL.out hext)
 have hHeld:=HST _ _ hHeld hext
 have QK5:=Lib.hid (QK5.out.mono hext (Nat.le_refl _))
 refine AllReadyE.cons rfl (fun Kn hKn=>?_) AllReadyE.nil
 go_simp
 (go_at_call 16;(with_reducible refine (qv_whole (sumF (d i) n) _ HT.out.1 HT.out.2).mono ?_);rintro e w7 ⟨r7,rfl,hr7,hbc⟩;obtain⟨s7,a7,n7,c7,t7,b7,l7,k7,rfl,QK7⟩:=hr7.shape;clear hr7)
 have QK5:=Lib.hid (QK5.out.mono hbc (Nat.le_refl _))
 have VL:=Lib.hid (bl_trans VL.out hbc)
 go_wp2_with fail
 refine hKn.out _ _ ?_ ?_ (fun hHeld=>?_)
 ·(try dsimp only);exact keepR.out _ VL.out
 ·exact hbc
 clear hKn Kn hext hbc
 (try simp only [Act.put,List.setIfInBounds_toArray,List.set_cons_zero,List.set_cons_succ])
 refine wpAnyE_done (by kernel_rfl) (fun we hext=>?_) _
 intro x wx hbx hx0 hxz y wy hby hy0 hyz hne
 have hxy:=hne x (by rfl)
 have hyx:=Ne.symm hxy
 have VL:=Lib.hid (bl_trans (bl_trans (bl_trans VL.out hext) hbx) hby)
 have QK5:=Lib.hid (((QK5.out.mono hext (Nat.le_refl _)).mono hbx (Nat.le_refl _)).mono hby (Nat.le_refl _))
 have QK7:=Lib.hid (((QK7.out.mono hext (Nat.le_refl _)).mono hbx (Nat.le_refl _)).mono hby (Nat.le_refl _))
 have OX:=Lib.hid ((own4_block hxz).below hby (own4_block hxz).lt)
 have OY:=Lib.hid (own4_block hyz)
 obtain⟨x0,x1,x2,x3,xf,xl⟩:=OX.out
 obtain⟨z0,z1,z2,z3,zf,zl⟩:=OY.out
 clear hne hext hbx hby hxz hyz ixc ixd
 simp only [Act.put,List.setIfInBounds_toArray,List.set_cons_zero,List.set_cons_succ]
 refine lastQ_step rfl (fun Kn hKn=>?_)
 go_simp
 refine hKn.out _ _ ?_
 clear hKn Kn
 (try simp only [Act.put,List.setIfInBounds_toArray,List.set_cons_zero,List.set_cons_succ])
 refine lastQ_step rfl (fun Kn hKn=>?_)
 go_simp
 refine hKn.out _ _ ?_
 clear hKn Kn
 (try simp only [Act.put,List.setIfInBounds_toArray,List.set_cons_zero,List.set_cons_succ])
 have OY1:=OY.out.set4 x (.bool s5) (.slice a5 n5 c5) (.bool t5) (.slice b5 l5 k5) hxy
 have OX8:=Lib.hid ((OX.out.anew (.bool s5) (.slice a5 n5 c5) (.bool t5) (.slice b5 l5 k5)).set4 y (.bool s7) (.slice a7 n7 c7) (.bool t7) (.slice b7 l7 k7) hyx)
 have OY8:=Lib.hid (OY1.anew (.bool s7) (.slice a7 n7 c7) (.bool t7) (.slice b7 l7 k7))
 have Q5:=Lib.hid ((QK5.out.at4 OX.out (.bool s5) (.slice a5 n5 c5) (.bool t5) (.slice b5 l5 k5)).at4 OY1 (.bool s7) (.slice a7 n7 c7) (.bool t7) (.slice b7 l7 k7))
 have Q7:=Lib.hid ((QK7.out.at4 OX.out (.bool s5) (.slice a5 n5 c5) (.bool t5) (.slice b5 l5 k5)).at4 OY1 (.bool s7) (.slice a7 n7 c7) (.bool t7) (.slice b7 l7 k7))
 have hw0:=RO0.out.lt
 have RO8:=Lib.hid (((RO0.out.below VL.out RO0.out.lt).set4 x (.bool s5) (.slice a5 n5 c5) (.bool t5) (.slice b5 l5 k5) (by omega)).set4 y (.bool s7) (.slice a7 n7 c7) (.bool t7) (.slice b7 l7 k7) (by omega))
 have KW8:=Lib.hid (below_set4q (below_set4q (KW0.out.trans (VL.out.mono KW0.out.size)) (b:=x) (by omega) (.bool s5) (.slice a5 n5 c5) (.bool t5) (.slice b5 l5 k5)) (b:=y) (by omega) (.bool s7) (.slice a7 n7 c7) (.bool t7) (.slice b7 l7 k7))
 clear OY1 QK5 QK7 OX OY x0 x1 x2 x3 xf xl z0 z1 z2 z3 zf zl hHeld HST
 generalize ((((((((wy.setCell ⟨x,0,none⟩ (.bool s5)).setCell ⟨x,1,none⟩ (.slice a5 n5 c5)).setCell ⟨x,2,none⟩ (.bool t5)).setCell ⟨x,3,none⟩ (.slice b5 l5 k5)).setCell ⟨y,0,none⟩ (.bool s7)).setCell ⟨y,1,none⟩ (.slice a7 n7 c7)).setCell ⟨y,2,none⟩ (.bool t7)).setCell ⟨y,3,none⟩ (.slice b7 l7 k7))=w8 at *
 obtain⟨x0,x1,x2,x3,xf,xl⟩:=OX8.out
 obtain⟨z0,z1,z2,z3,zf,zl⟩:=OY8.out
 have HX:Hid (((cash i:Int):Rat)+sumQ (fun j=>q j*shQ n d j i) n=hasP n (cashQ cash) (shQ n d) q i):=Lib.hid rfl
 have HT2:Hid (((sumF (d i) n:Int):Rat)=totQ n d i):=Lib.hid rfl
 rw [HX.out] at Q5
 rw [HT2.out] at Q7
 by_cases hlt:hasP n (cashQ cash) (shQ n d) q i<totQ n d i
 ·have e1:decide (cmpR (hasP n (cashQ cash) (shQ n d) q i) (totQ n d i)<0)=true:=by unfold cmpR;rw [if_pos hlt];rfl
  have HD:Hid (dueQ n cash d q i=hasP n (cashQ cash) (shQ n d) q i):=Lib.hid (by unfold dueQ;rw [if_pos hlt])
  clear hlt
  go_wp2_with fail
  refine (qv_cmp _ _ (hasP n (cashQ cash) (shQ n d) q i) (totQ n d i) (2*(512*(K+1))+1) _ Q5.out (Q7.out.le (by omega)) (by omega)).mono ?_
  rintro e w9 ⟨rfl,hb9⟩
  have OX8:=Lib.hid (OX8.out.below hb9 OX8.out.lt)
  have RO8:=Lib.hid (RO8.out.below hb9 RO8.out.lt)
  have Q5:=Lib.hid (Q5.out.mono hb9 (Nat.le_refl _))
  have KW8:=Lib.hid (KW8.out.trans (hb9.mono KW8.out.size))
  clear x0 x1 x2 x3 xf xl z0 z1 z2 z3 zf zl hb9
  obtain⟨x0,x1,x2,x3,xf,xl⟩:=OX8.out
  go_wp2_with fail
  refine (qv_low _ _ (2*(512*(K+1))+1) _ Q5.out (by omega)).mono ?_
  rintro e w10 ⟨r10,rfl,hr10,hb10⟩
  obtain⟨s3,a3,n3,c3,t3,b3,l3,k3,rfl,QK⟩:=(QV.of hr10).shape
  have RO8:=Lib.hid (RO8.out.below hb10 RO8.out.lt)
  have KW8:=Lib.hid (KW8.out.trans (hb10.mono KW8.out.size))
  clear x0 x1 x2 x3 xf xl hb10 hr10
  obtain⟨x0,x1,x2,x3,xf,xl⟩:=RO8.out
  go_wp2_with fail
  refine bodyPost_ret (v:=.agg #[.bool s3,.slice a3 n3 c3,.bool t3,.slice b3 l3 k3]) (by simp [results,Tryz.results63,go_sem,x0,x1,x2,x3,xf,xl]) rfl ?_
  exact⟨_,rfl,by rw [HD.out];exact (QK.out.le (by omega)).at4 RO8.out _ _ _ _,below_set4q KW8.out (by omega) _ _ _ _⟩
 ·have e1:decide (cmpR (hasP n (cashQ cash) (shQ n d) q i) (totQ n d i)<0)=false:=by rw [cmpR_lt];simpa using hlt
  have HD:Hid (dueQ n cash d q i=totQ n d i):=Lib.hid (by unfold dueQ;rw [if_neg hlt])
  clear hlt
  go_wp2_with fail
  refine (qv_cmp _ _ (hasP n (cashQ cash) (shQ n d) q i) (totQ n d i) (2*(512*(K+1))+1) _ Q5.out (Q7.out.le (by omega)) (by omega)).mono ?_
  rintro e w9 ⟨rfl,hb9⟩
  have OY8:=Lib.hid (OY8.out.below hb9 OY8.out.lt)
  have RO8:=Lib.hid (RO8.out.below hb9 RO8.out.lt)
  have Q7:=Lib.hid (Q7.out.mono hb9 (Nat.le_refl _))
  have KW8:=Lib.hid (KW8.out.trans (hb9.mono KW8.out.size))
  clear x0 x1 x2 x3 xf xl z0 z1 z2 z3 zf zl hb9
  obtain⟨z0,z1,z2,z3,zf,zl⟩:=OY8.out
  obtain⟨x0,x1,x2,x3,xf,xl⟩:=RO8.out
  go_wp2_with fail
  refine bodyPost_ret (v:=.agg #[.bool s7,.slice a7 n7 c7,.bool t7,.slice b7 l7 k7]) (by simp [results,Tryz.results63,go_sem,x0,x1,x2,x3,xf,xl]) rfl ?_
  exact⟨_,rfl,by rw [HD.out];exact (Q7.out.le (by omega)).at4 RO8.out _ _ _ _,below_set4q KW8.out (by omega) _ _ _ _⟩
end Go.Proofs.YtgmopcncbpdniaaGreat
