import Derived.Test.YtgmopcncbpdniaaGreatKShelf
import Derived.Test.YtgmopcncbpdniaaGreatKSlv
import Derived.Maps.AppendAt
import Derived.Test.YtgmopcncbpdniaaGreatKBig17
import Derived.Test.YtgmopcncbpdniaaGreatKInt5
import Derived.Laws.Rows
import Derived.RegionTactic
import Derived.Test.YtgmopcncbpdniaaGreatKPlainD
set_option linter.unusedVariables false
set_option linter.unusedSimpArgs false
namespace Go.Proofs.YtgmopcncbpdniaaGreat
open Go.RowKit
def NoLimb (v:Value):Prop:=∀ z,v≠.int .u32 z
def KindB (w:World) (v:Value):Prop:=∀ g,v.ownBlock=some g->∀ o x,w.cell? ⟨g,o,none⟩=some x->NoLimb x
theorem kind_nil (w:World) (n c:Nat):KindB w (.slice none n c):=fun g h=>by cases h
theorem KindB.below {w w':World} {v:Value} {B:Nat} (h:KindB w v) (hb:Below B w w') (hl:∀ g,v.ownBlock=some g->g<B):KindB w' v:=fun g hg o x hx=>by
 rw [hb.cell (p:=⟨g,o,none⟩) (hl g hg)] at hx;exact h g hg o x hx
theorem mag_keep {w w':World} {u v:Value} {x:Nat} (h:Mag w u x) (hk:KindB w v) (hg:w.grownBy w' v.ownBlock):Mag w' u x:=by
 obtain⟨a,b,o,c,rfl,hs⟩:=h;refine⟨a,b,o,c,rfl,⟨hs.cap,hs.at_,fun q=>jm (hs.lt q) hg.size,fun i hi=>?_,hs.nc⟩⟩;have hb:=hs.lt (by omega);have hc:=hs.cell i hi;rw [<-hc];unfold World.cell?;rw [hg.block b hb (fun e=>hk b e.symm _ _ hc _ rfl)]
theorem rat_keep {w w':World} {u v:Value} {q:Rat} {m:Nat} (h:RatIs w u q m) (hk:KindB w v) (hg:w.grownBy w' v.ownBlock):RatIs w' u q m:=by
 obtain⟨a,d,rfl,h1,h2,h3⟩:=h;exact⟨a,d,rfl,mag_keep h1 hk hg,mag_keep h2 hk hg,h3⟩
theorem rd4_keep {w w':World} {row:Option Nat} {b o:Nat} {x y z u:Value} (h:Rd4 w b o x y z u) (hg:w.grownBy w' row) (hne:some b≠row):Rd4 w' b o x y z u:=by
 have k:∀ j,w'.cell? ⟨b,j,none⟩=w.cell? ⟨b,j,none⟩:=fun j=>World.cell?_of_block (hg.block b h.lt hne)
 exact⟨(k _).trans h.c0,(k _).trans h.c1,(k _).trans h.c2,(k _).trans h.c3,jm h.lt hg.size⟩
theorem RowP.keep' {w w':World} {v:Value} {g n K:Nat} {P:Nat->Prop} {q:Nat->Rat} (h:RowP w g n P q K) (hk:KindB w v) (hg:w.grownBy w' v.ownBlock) (hne:some g≠v.ownBlock):RowP w' g n P q K:=
  ⟨fun j hj=>by
    obtain⟨s,a,m,c,a2,m2,c2,h1,h2⟩:=h.cell j hj;exact⟨s,a,m,c,a2,m2,c2,rd4_keep h1 hg hne,fun p=>rat_keep (h2 p) hk hg⟩,
   fun o=>(World.frozen?_of_block (hg.block g h.lt hne)).trans (h.f o),jm h.lt hg.size⟩
theorem RMat.keep' {w w' : World} {v : Value} {B g k cols K : Nat} {rb rc : Nat -> Nat} {Q : Nat -> Nat -> Rat} (h : RMat w B g k cols rb rc Q K) (hk : KindB w v) (hg : w.grownBy w' v.ownBlock) (h1 : some g ≠ v.ownBlock) (h2 : ∀ i, i < k -> some (rb i) ≠ v.ownBlock) :
    RMat w' B g k cols rb rc Q K:=
  ⟨fun i hi=>(World.cell?_of_block (hg.block g h.gl h1)).trans (h.hdr i hi),fun o=>(World.frozen?_of_block (hg.block g h.gl h1)).trans (h.hf o),h.gB,jm h.gl hg.size,
   fun i hi=>(h.row i hi).keep' hk hg (h2 i hi),h.rB,h.ne,h.apart⟩
theorem own_st4 {w:World} {base e s n:Nat} {v:Value} {xs:List Value} (h:w.ownsRow base e s v n xs) (b o:Nat) (hne:v.ownBlock≠some b) (u0 u1 u2 u3:Value):(st4 w b o u0 u1 u2 u3).ownsRow base e s v n xs:=
 h.kept (row:=some b) ⟨rfl,rfl,rfl,by rw [size_st4];exact Nat.le_refl _,fun k hk hkb=>by
  have:k≠b:=fun e=>hkb (by rw [e])
  simp only [st4];rw [Below.heap_setCell _ _ _ _ this,Below.heap_setCell _ _ _ _ this,Below.heap_setCell _ _ _ _ this,Below.heap_setCell _ _ _ _ this]⟩ (.inr hne)
theorem kind_st4 {w:World} {v:Value} (h:KindB w v) (b o:Nat) (hne:v.ownBlock≠some b) (u0 u1 u2 u3:Value):KindB (st4 w b o u0 u1 u2 u3) v:=fun g hg o' x hx=>by
 have:b≠g:=fun e=>hne (by rw [hg,e])
 rw [far4 _ _ _ _ this] at hx;exact h g hg o' x hx
theorem cell_of {w:World} {g o:Nat} {cur:Array Value} {t:TypeId} {fr:Nat × Nat} (hg:w.heap[g]? = some (.cells cur t fr)):w.cell? ⟨g,o,none⟩=cur[o]?:=by
 simp [World.cell?,hg]
theorem noLimb_zero {z:Array Value} {n:Nat} (hz:∀ u ∈ z.toList,NoLimb u) (h0:0<z.size):∀ u ∈ (Builtin.zeroCells z n).toList,NoLimb u:=fun u hu=>by
 unfold Builtin.zeroCells at hu;simp at hu;obtain⟨a,ha,rfl⟩:=hu;have hlt:a % z.size<z.size:=Nat.mod_lt _ h0;rw [getElem!_pos z (a % z.size) hlt];exact hz _ (by simp)
section
variable {P:Program} {w:World}
theorem run_append_kind (base : Nat) (t ty e : TypeId) (i : TypeInfo) (z : Value) (size bytes : Nat) (ht : P.underlying t = some (.slice e)) (hi : P.info? e = some i) (hz : i.zero = some z)
  (hsize:i.size=size) (hby:i.bytes=bytes) (hzs:z.cells.size=size) (hsz:0<size)
  (v:Value) (n:Nat) (xs:List Value) (hown:w.ownsRow base e size v n xs) (hkind:KindB w v) (hzk:∀ u ∈ z.cells.toList,NoLimb u)
  (a:Addr) (m c:Nat) (news:List Value) (hl:news.length=m*size) (hnews:∀ j u,news[j]? = some u->w.cell? (a.add j)=some u) (h1:∀ u ∈ news,u.oneCell'=true) (hnk:∀ u ∈ news,NoLimb u)
  (h63:n+m<=maxLen) (hbytes:(n+m)*bytes<=140737488355328) (hbase:base<=w.heap.size) (hm:0<m) :
  ∃ v' w',(Builtin.append_ #[t,t] ty #[v,.slice (some a) m c]).run P w = .ok v' w'/\w'.ownsRow base e size v' (n+m) (xs ++ news)/\w.grownBy w' v.ownBlock/\
   (v'.ownBlock=v.ownBlock\/v'.ownBlock=some w.heap.size)/\KindB w' v':=by
 obtain⟨v',w',hr,h2,h3,_,h5⟩:=run_append_own_at (P:=P) w base t ty e i z size bytes ht hi hz hsize hby hzs hsz v n xs hown a m c news hl hnews h1 h63 hbytes hbase;refine⟨v',w',hr,h2,h3,h5,?_⟩;subst hsize;subst hby;have hsmall:n+m<=9223372036854775807:=by simp only [maxLen] at h63;omega
 have hnew:∀ (l:List Value) (cap:Nat),(∀ u ∈ l,NoLimb u)->KindB (w.drew.alloc (.cells (l.toArray ++ Builtin.zeroCells z.cells cap) e)) (.slice (some ⟨w.heap.size,0,none⟩) (n+m) (cap+(n+m))):=fun l cap hlk g hg o x hx=>by
  have:w.heap.size=g:=Option.some.inj hg;subst this;have hcell:(w.drew.alloc (.cells (l.toArray ++ Builtin.zeroCells z.cells cap) e)).cell? ⟨w.heap.size,o,none⟩=(l.toArray ++ Builtin.zeroCells z.cells cap)[o]?:=cell_of (t:=e) (fr:=(0,0)) (heap_alloc_new w.drew _);rw [hcell] at hx
  have hmem:x ∈ (l.toArray ++ Builtin.zeroCells z.cells cap).toList:=by
   rw [<-Array.getElem?_toList] at hx;exact List.mem_of_getElem? hx
  rw [Array.toList_append] at hmem;rcases List.mem_append.1 hmem with h | h
  ·exact hlk x (by simpa using h)
  ·exact noLimb_zero hzk (by omega) x h
 have hxk:∀ u ∈ xs,NoLimb u:=fun u hu=>by
  obtain⟨j,hj,rfl⟩:=List.mem_iff_getElem.1 hu;rcases hob:v.ownBlock with _ | g
  ·rcases hown.2 with ⟨rfl,rfl⟩ | ⟨g,cap,cur,rfl,_⟩
   ·have:=hown.1;omega
   ·cases hob
  ·have hc:=hown.cells hob j xs[j] (by simp);rw [add_at,Nat.zero_add] at hc;exact hkind g hob j _ hc
 rcases hown.2 with ⟨rfl,rfl⟩ | ⟨g,cap,cur,rfl,hbg,hg,hnc,hcm,hcs,htake⟩
 ·have hr2:=run_append_nil (P:=P) w t ty e i z ht hi hz a m c news hl hnews hm (by omega) (by have hb:=hbytes;simp only [Nat.zero_add] at hb;omega);rw [hr2] at hr;injection hr with e1 e2;subst e1;subst e2;have h:=hnew news (grownCap w m 0 e - m) hnk;intro g hg o x hx;exact h g hg o x hx
 ·by_cases hroom:n+m<=cap
  ·have hfit:n*i.size+news.length<=cur.size:=by rw [hl,hcs,<-Nat.add_mul];exact Nat.mul_le_mul_right _ hroom
   have hr2:=run_append_room (P:=P) w t ty e i ht hi g n cap cur hg a m c news hl hnews h1 hroom hfit;rw [hr2] at hr;injection hr with e1 e2;subst e1;subst e2;intro g' hg' o x hx;have:g=g':=Option.some.inj hg';subst this;rw [cell_of (setRow_heap w g cur _ e _ hg)] at hx
   have hmem:x ∈ (cur.toList.take (n*i.size) ++ news ++ cur.toList.drop (n*i.size+news.length)):=by
    rw [List.getElem?_toArray] at hx;exact List.mem_of_getElem? hx
   have hcur:∀ u ∈ cur.toList,NoLimb u:=fun u hu=>by
    obtain⟨j,hj,rfl⟩:=List.mem_iff_getElem.1 hu;refine hkind g rfl j _ ?_;rw [cell_of hg];simp
   rcases List.mem_append.1 hmem with h | h
   ·rcases List.mem_append.1 h with h | h
    ·exact hcur x (List.mem_of_mem_take h)
    ·exact hnk x h
   ·exact hcur x (List.mem_of_mem_drop h)
  ·have holds:∀ j u,xs[j]? = some u->w.cell? ((⟨g,0,none⟩:Addr).add j)=some u:=hown.cells (g:=g) rfl;have hr2:=run_append_grow (P:=P) w t ty e i z ht hi hz ⟨g,0,none⟩ n cap xs hown.1 holds a m c news hl hnews (by omega) (by omega) (growslice_fits (by omega) hbytes);rw [hr2] at hr;injection hr with e1 e2;subst e1;subst e2;have h:=hnew (xs ++ news) (grownCap w (n+m) cap e - (n+m)) (fun u hu=>(List.mem_append.1 hu).elim (hxk u) (hnk u));intro g' hg' o x hx;refine h g' hg' o x ?_;simpa using hx
theorem wpList_append_kind {ops : Array Oper} {rest : List Oper} {o : Oper} {a : Act} {Q : Exit -> Act -> World -> Prop} (hgd : o.guard = none) (s x : Operand) (t : TypeId)
  (ho:o.op = .call { callee:=.builtin .append,args:=#[s,x],argTypes:=#[t,t] })
  (base:Nat) (e:TypeId) (i:TypeInfo) (z:Value) (size bytes:Nat) (ht:P.underlying t=some (.slice e)) (hi:P.info? e=some i) (hz:i.zero=some z)
  (hsize:i.size=size) (hby:i.bytes=bytes) (hzs:z.cells.size=size) (hsz:0<size)
  (v:Value) (n:Nat) (xs:List Value) (hs:a.eval s=v) (hown:w.ownsRow base e size v n xs) (hkind:KindB w v) (hzk:∀ u ∈ z.cells.toList,NoLimb u)
  (ad:Addr) (m c:Nat) (news:List Value) (hx:a.eval x = .slice (some ad) m c) (hl:news.length=m*size) (hnews:∀ j u,news[j]? = some u->w.cell? (ad.add j)=some u) (h1:∀ u ∈ news,u.oneCell'=true) (hnk:∀ u ∈ news,NoLimb u)
  (h63:n+m<=maxLen) (hbytes:(n+m)*bytes<=140737488355328) (hbase:base<=w.heap.size) (hm:0<m)
  (h:∀ v' w',w'.ownsRow base e size v' (n+m) (xs ++ news)->w.grownBy w' v.ownBlock->(v'.ownBlock=v.ownBlock\/v'.ownBlock=some w.heap.size)->KindB w' v'->wpList P ops Q rest (a.put o.dst v') w'):wpList P ops Q (o :: rest) a w:=by
 refine wpList_plain hgd fun K hK=>?_
 obtain⟨v',w',hr,h2,h3,h5,h6⟩:=run_append_kind (P:=P) base t o.type e i z size bytes ht hi hz hsize hby hzs hsz v n xs hown hkind hzk ad m c news hl hnews h1 hnk h63 hbytes hbase hm;unfold Oper.wp execOp;simp only [ho,resolve,invoke,builtin,Sem.run_bind,Sem.run_pure,Result.andThen_ok,List.map_toArray,List.map_cons,List.map_nil,hs,hx,hr];exact hK _ _ (h v' w' h2 h3 h5 h6)
end
def KindZ (w:World) (v:Value):Prop:=∀ g,v.ownBlock=some g->∀ o x,w.cell? ⟨g,o,none⟩=some x->NoInt x
theorem KindZ.below {w w':World} {v:Value} {B:Nat} (h:KindZ w v) (hb:Below B w w') (hl:∀ g,v.ownBlock=some g->g<B):KindZ w' v:=fun g hg o x hx=>by
 rw [hb.cell (p:=⟨g,o,none⟩) (hl g hg)] at hx;exact h g hg o x hx
theorem dg_keepz {w w':World} {u v:Value} {x:Nat} (h:Dg w u x) (hk:KindZ w v) (hg:w.grownBy w' v.ownBlock):Dg w' u x:=by
 obtain⟨a,b,o,c,rfl,hs⟩:=h;refine⟨a,b,o,c,rfl,⟨hs.cap,hs.at_,fun q=>jm (hs.lt q) hg.size,fun i hi=>?_,hs.nc⟩⟩;have hb:=hs.lt (by omega);have hc:=hs.cell i hi;rw [<-hc];unfold World.cell?;rw [hg.block b hb (fun e=>hk b e.symm _ _ hc _ _ rfl)]
theorem ZIs.keep {w w':World} {u v:Value} {z:Int} {m:Nat} (h:ZIs w u z m) (hk:KindZ w v) (hg:w.grownBy w' v.ownBlock):ZIs w' u z m:=by
 obtain⟨x,h1,h2,h3⟩:=h;exact⟨x,h1,dg_keepz h2 hk hg,h3⟩
theorem QIs.keep {w w':World} {u v:Value} {n d:Int} {m:Nat} (h:QIs w u n d m) (hk:KindZ w v) (hg:w.grownBy w' v.ownBlock):QIs w' u n d m:=by
 obtain⟨s1,u1,s2,u2,h0,h1,h2,h3⟩:=h;exact⟨s1,u1,s2,u2,h0,h1.keep hk hg,h2.keep hk hg,h3⟩
theorem noInt_zero {z:Array Value} {n:Nat} (hz:∀ u ∈ z.toList,NoInt u) (h0:0<z.size):∀ u ∈ (Builtin.zeroCells z n).toList,NoInt u:=fun u hu=>by
 unfold Builtin.zeroCells at hu;simp at hu;obtain⟨a,ha,rfl⟩:=hu;have hlt:a % z.size<z.size:=Nat.mod_lt _ h0;rw [getElem!_pos z (a % z.size) hlt];exact hz _ (by simp)
section
variable {P:Program} {w:World}
theorem run_append_kindz (base : Nat) (t ty e : TypeId) (i : TypeInfo) (z : Value) (size bytes : Nat) (ht : P.underlying t = some (.slice e)) (hi : P.info? e = some i) (hz : i.zero = some z)
  (hsize:i.size=size) (hby:i.bytes=bytes) (hzs:z.cells.size=size) (hsz:0<size)
  (v:Value) (n:Nat) (xs:List Value) (hown:w.ownsRow base e size v n xs) (hkind:KindZ w v) (hzk:∀ u ∈ z.cells.toList,NoInt u)
  (a:Addr) (m c:Nat) (news:List Value) (hl:news.length=m*size) (hnews:∀ j u,news[j]? = some u->w.cell? (a.add j)=some u) (h1:∀ u ∈ news,u.oneCell'=true) (hnk:∀ u ∈ news,NoInt u)
  (h63:n+m<=maxLen) (hbytes:(n+m)*bytes<=140737488355328) (hbase:base<=w.heap.size) (hm:0<m) :
  ∃ v' w',(Builtin.append_ #[t,t] ty #[v,.slice (some a) m c]).run P w = .ok v' w'/\w'.ownsRow base e size v' (n+m) (xs ++ news)/\w.grownBy w' v.ownBlock/\
   (v'.ownBlock=v.ownBlock\/v'.ownBlock=some w.heap.size)/\KindZ w' v':=by
 obtain⟨v',w',hr,h2,h3,_,h5⟩:=run_append_own_at (P:=P) w base t ty e i z size bytes ht hi hz hsize hby hzs hsz v n xs hown a m c news hl hnews h1 h63 hbytes hbase;refine⟨v',w',hr,h2,h3,h5,?_⟩;subst hsize;subst hby;have hsmall:n+m<=9223372036854775807:=by simp only [maxLen] at h63;omega
 have hnew:∀ (l:List Value) (cap:Nat),(∀ u ∈ l,NoInt u)->KindZ (w.drew.alloc (.cells (l.toArray ++ Builtin.zeroCells z.cells cap) e)) (.slice (some ⟨w.heap.size,0,none⟩) (n+m) (cap+(n+m))):=fun l cap hlk g hg o x hx=>by
  have:w.heap.size=g:=Option.some.inj hg;subst this;have hcell:(w.drew.alloc (.cells (l.toArray ++ Builtin.zeroCells z.cells cap) e)).cell? ⟨w.heap.size,o,none⟩=(l.toArray ++ Builtin.zeroCells z.cells cap)[o]?:=cell_of (t:=e) (fr:=(0,0)) (heap_alloc_new w.drew _);rw [hcell] at hx
  have hmem:x ∈ (l.toArray ++ Builtin.zeroCells z.cells cap).toList:=by
   rw [<-Array.getElem?_toList] at hx;exact List.mem_of_getElem? hx
  rw [Array.toList_append] at hmem;rcases List.mem_append.1 hmem with h | h
  ·exact hlk x (by simpa using h)
  ·exact noInt_zero hzk (by omega) x h
 have hxk:∀ u ∈ xs,NoInt u:=fun u hu=>by
  obtain⟨j,hj,rfl⟩:=List.mem_iff_getElem.1 hu;rcases hob:v.ownBlock with _ | g
  ·rcases hown.2 with ⟨rfl,rfl⟩ | ⟨g,cap,cur,rfl,_⟩
   ·have:=hown.1;omega
   ·cases hob
  ·have hc:=hown.cells hob j xs[j] (by simp);rw [add_at,Nat.zero_add] at hc;exact hkind g hob j _ hc
 rcases hown.2 with ⟨rfl,rfl⟩ | ⟨g,cap,cur,rfl,hbg,hg,hnc,hcm,hcs,htake⟩
 ·have hr2:=run_append_nil (P:=P) w t ty e i z ht hi hz a m c news hl hnews hm (by omega) (by have hb:=hbytes;simp only [Nat.zero_add] at hb;omega);rw [hr2] at hr;injection hr with e1 e2;subst e1;subst e2;have h:=hnew news (grownCap w m 0 e - m) hnk;intro g hg o x hx;exact h g hg o x hx
 ·by_cases hroom:n+m<=cap
  ·have hfit:n*i.size+news.length<=cur.size:=by rw [hl,hcs,<-Nat.add_mul];exact Nat.mul_le_mul_right _ hroom
   have hr2:=run_append_room (P:=P) w t ty e i ht hi g n cap cur hg a m c news hl hnews h1 hroom hfit;rw [hr2] at hr;injection hr with e1 e2;subst e1;subst e2;intro g' hg' o x hx;have:g=g':=Option.some.inj hg';subst this;rw [cell_of (setRow_heap w g cur _ e _ hg)] at hx
   have hmem:x ∈ (cur.toList.take (n*i.size) ++ news ++ cur.toList.drop (n*i.size+news.length)):=by
    rw [List.getElem?_toArray] at hx;exact List.mem_of_getElem? hx
   have hcur:∀ u ∈ cur.toList,NoInt u:=fun u hu=>by
    obtain⟨j,hj,rfl⟩:=List.mem_iff_getElem.1 hu;refine hkind g rfl j _ ?_;rw [cell_of hg];simp
   rcases List.mem_append.1 hmem with h | h
   ·rcases List.mem_append.1 h with h | h
    ·exact hcur x (List.mem_of_mem_take h)
    ·exact hnk x h
   ·exact hcur x (List.mem_of_mem_drop h)
  ·have holds:∀ j u,xs[j]? = some u->w.cell? ((⟨g,0,none⟩:Addr).add j)=some u:=hown.cells (g:=g) rfl;have hr2:=run_append_grow (P:=P) w t ty e i z ht hi hz ⟨g,0,none⟩ n cap xs hown.1 holds a m c news hl hnews (by omega) (by omega) (growslice_fits (by omega) hbytes);rw [hr2] at hr;injection hr with e1 e2;subst e1;subst e2;have h:=hnew (xs ++ news) (grownCap w (n+m) cap e - (n+m)) (fun u hu=>(List.mem_append.1 hu).elim (hxk u) (hnk u));intro g' hg' o x hx;refine h g' hg' o x ?_;simpa using hx
theorem wpList_append_kindz {ops : Array Oper} {rest : List Oper} {o : Oper} {a : Act} {Q : Exit -> Act -> World -> Prop} (hgd : o.guard = none) (s x : Operand) (t : TypeId)
  (ho:o.op = .call { callee:=.builtin .append,args:=#[s,x],argTypes:=#[t,t] })
  (base:Nat) (e:TypeId) (i:TypeInfo) (z:Value) (size bytes:Nat) (ht:P.underlying t=some (.slice e)) (hi:P.info? e=some i) (hz:i.zero=some z)
  (hsize:i.size=size) (hby:i.bytes=bytes) (hzs:z.cells.size=size) (hsz:0<size)
  (v:Value) (n:Nat) (xs:List Value) (hs:a.eval s=v) (hown:w.ownsRow base e size v n xs) (hkind:KindZ w v) (hzk:∀ u ∈ z.cells.toList,NoInt u)
  (ad:Addr) (m c:Nat) (news:List Value) (hx:a.eval x = .slice (some ad) m c) (hl:news.length=m*size) (hnews:∀ j u,news[j]? = some u->w.cell? (ad.add j)=some u) (h1:∀ u ∈ news,u.oneCell'=true) (hnk:∀ u ∈ news,NoInt u)
  (h63:n+m<=maxLen) (hbytes:(n+m)*bytes<=140737488355328) (hbase:base<=w.heap.size) (hm:0<m)
  (h:∀ v' w',w'.ownsRow base e size v' (n+m) (xs ++ news)->w.grownBy w' v.ownBlock->(v'.ownBlock=v.ownBlock\/v'.ownBlock=some w.heap.size)->KindZ w' v'->wpList P ops Q rest (a.put o.dst v') w'):wpList P ops Q (o :: rest) a w:=by
 refine wpList_plain hgd fun K hK=>?_
 obtain⟨v',w',hr,h2,h3,h5,h6⟩:=run_append_kindz (P:=P) base t o.type e i z size bytes ht hi hz hsize hby hzs hsz v n xs hown hkind hzk ad m c news hl hnews h1 hnk h63 hbytes hbase hm;unfold Oper.wp execOp;simp only [ho,resolve,invoke,builtin,Sem.run_bind,Sem.run_pure,Result.andThen_ok,List.map_toArray,List.map_cons,List.map_nil,hs,hx,hr];exact hK _ _ (h v' w' h2 h3 h5 h6)
end
structure QRow (w:World) (base:Nat) (v:Value) (r:Nat) (p d:Nat->Int) (K:Nat) (xs:List Value):Prop where
 kind:KindZ w v
 own:w.ownsRow base 40 4 v r xs
 val:∀ j,j<r->∃ s a m c t a2 m2 c2,xs[j*4]? = some (.bool s)/\xs[j*4+1]? = some (.slice a m c)/\xs[j*4+2]? = some (.bool t)/\xs[j*4+3]? = some (.slice a2 m2 c2)/\QIs w (.agg #[.bool s,.slice a m c,.bool t,.slice a2 m2 c2]) (p j) (d j) K
variable {w w':World} {base r K:Nat} {v:Value} {p d:Nat->Int} {xs:List Value}
theorem QRow.nil (w:World) (base:Nat) (p d:Nat->Int) (K:Nat) (v:Value) (h:w.ownsRow base 40 4 v 0 []) (hk:KindZ w v):QRow w base v 0 p d K []:=⟨hk,h,fun j hj=>by omega⟩
theorem QRow.below (h:QRow w base v r p d K xs) (hb:Below w.heap.size w w'):QRow w' base v r p d K xs:=
 ⟨h.kind.below hb (fun g hg=>(h.own.lt g hg).2),own_kept h.own hb,fun j hj=>by
  obtain⟨s,a,m,c,t,a2,m2,c2,h1,h2,h3,h4,h5⟩:=h.val j hj;exact⟨s,a,m,c,t,a2,m2,c2,h1,h2,h3,h4,h5.mono hb jl⟩⟩
theorem QRow.push {v' : Value} {x y : Int} {s t : Bool} {a a2 : Option Addr} {m c m2 c2 : Nat} (h : QRow w base v r p d K xs) (hx : QIs w (.agg #[.bool s, .slice a m c, .bool t, .slice a2 m2 c2]) x y K) (hq : p r = x) (hq2 : d r = y)
  (hgrow:w.grownBy w' v.ownBlock) (hown:w'.ownsRow base 40 4 v' (r+1) (xs ++ [.bool s,.slice a m c,.bool t,.slice a2 m2 c2])) (hkind:KindZ w' v'):QRow w' base v' (r+1) p d K (xs ++ [.bool s,.slice a m c,.bool t,.slice a2 m2 c2]):=by
 have hl:=h.own.1;refine⟨hkind,hown,fun j hj=>?_⟩;by_cases e:j<r
 ·obtain⟨s',a',m',c',t',a2',m2',c2',h1,h2,h3,h4,h5⟩:=h.val j e;exact⟨s',a',m',c',t',a2',m2',c2',by rw [List.getElem?_append_left (by omega)];exact h1,by rw [List.getElem?_append_left (by omega)];exact h2,by rw [List.getElem?_append_left (by omega)];exact h3,by rw [List.getElem?_append_left (by omega)];exact h4,h5.keep h.kind hgrow⟩
 ·obtain rfl:j=r:=by omega
  refine⟨s,a,m,c,t,a2,m2,c2,?_,?_,?_,?_,by rw [hq,hq2];exact hx.keep h.kind hgrow⟩
  ·rw [List.getElem?_append_right (by omega),hl,Nat.sub_self];rfl
  ·rw [List.getElem?_append_right (by omega),hl,show j*4+1 - j*4=1 by omega];rfl
  ·rw [List.getElem?_append_right (by omega),hl,show j*4+2 - j*4=2 by omega];rfl
  ·rw [List.getElem?_append_right (by omega),hl,show j*4+3 - j*4=3 by omega];rfl
theorem QRow.alloc (h:QRow w base v r p d K xs) (o:Obj):QRow (w.alloc o) base v r p d K xs:=h.below ((jr w).alloc jl o)
theorem noInt_4 (s t:Bool) (a a2:Option Addr) (m c m2 c2:Nat):∀ u ∈ [Value.bool s,.slice a m c,.bool t,.slice a2 m2 c2],NoInt u:=fun u hu=>by
 simp at hu;rcases hu with rfl | rfl | rfl | rfl <;> exact fun k z h=>by cases h
structure QSl (w:World) (v:Value) (n:Nat) (p d:Nat->Int) (K:Nat):Prop where
 val:∃ g cap,v = .slice (some ⟨g,0,none⟩) n cap/\n<=cap/\g<w.heap.size/\∀ j,j<n->∃ s a m c t a2 m2 c2,w.cell? ⟨g,j*4,none⟩=some (.bool s)/\w.cell? ⟨g,j*4+1,none⟩=some (.slice a m c)/\w.cell? ⟨g,j*4+2,none⟩=some (.bool t)/\w.cell? ⟨g,j*4+3,none⟩=some (.slice a2 m2 c2)/\QIs w (.agg #[.bool s,.slice a m c,.bool t,.slice a2 m2 c2]) (p j) (d j) K
theorem QRow.sl (h:QRow w base v r p d K xs) (h0:0<r):QSl w v r p d K:=by
 have h1:=h.own;rcases h1.2 with ⟨_,e⟩ | ⟨g,cap,cur,hv,hbg,hg,hcap,hml,hsz,htk⟩
 ·omega
 ·subst hv;have hlt:g<w.heap.size:=(Array.getElem?_eq_some_iff.1 hg).1;have hc:=h1.cells (g:=g) rfl;refine⟨g,cap,rfl,by omega,hlt,fun j hj=>?_⟩;obtain⟨s',a',m',c',t',a2',m2',c2',k1,k2,k3,k4,k5⟩:=h.val j hj
  have k:∀ i u,xs[i]? = some u->w.cell? ⟨g,i,none⟩=some u:=fun i u hu=>by
   have:=hc i u hu;rw [add_at,Nat.zero_add] at this;exact this
  exact⟨s',a',m',c',t',a2',m2',c2',k _ _ k1,k _ _ k2,k _ _ k3,k _ _ k4,k5⟩
attribute [local go_sem ↓] Go.wp_at_zero Go.wp_at_succ
def QV (w:World) (v:Value) (q:Rat) (m:Nat):Prop:=∃ p d:Int,QIs w v p d m/\(p:Rat)=q*(d:Rat)
theorem QIs.le {w:World} {v:Value} {p d:Int} {m k:Nat} (h:QIs w v p d m) (hk:m<=k):QIs w v p d k:=by
 obtain⟨s1,u1,s2,u2,h0,h1,h2,h3⟩:=h;exact⟨s1,u1,s2,u2,h0,h1.le hk,h2.le hk,h3⟩
theorem QIs.pos {w:World} {v:Value} {p d:Int} {m:Nat} (h:QIs w v p d m):0<d:=by
 obtain⟨s1,u1,s2,u2,h0,h1,h2,h3⟩:=h;exact h3
theorem QV.mono {w w':World} {v:Value} {q:Rat} {m B:Nat} (h:QV w v q m) (hb:Below B w w') (hB:w.heap.size<=B):QV w' v q m:=by
 obtain⟨p,d,h1,h2⟩:=h;exact⟨p,d,h1.mono hb hB,h2⟩
theorem QV.le {w:World} {v:Value} {q:Rat} {m k:Nat} (h:QV w v q m) (hk:m<=k):QV w v q k:=by
 obtain⟨p,d,h1,h2⟩:=h;exact⟨p,d,h1.le hk,h2⟩
theorem QV.of {w:World} {v:Value} {q:Rat} {m:Nat} (h:QIs w v q.num ((q.den:Nat):Int) m):QV w v q m:=
 ⟨_,_,h,(mul_den_num q).symm⟩
theorem QV.shape {w:World} {v:Value} {q:Rat} {m:Nat} (h:QV w v q m):∃ s a n c t b l e,v = .agg #[.bool s,.slice a n c,.bool t,.slice b l e]/\Hid (QV w (.agg #[.bool s,.slice a n c,.bool t,.slice b l e]) q m):=by
 obtain⟨p,d,h1,h2⟩:=h;obtain⟨s,a,n,c,t,b,l,e,rfl,-,-,-⟩:=h1.shape;exact⟨s,a,n,c,t,b,l,e,rfl,p,d,h1,h2⟩
theorem rat_ne {d:Int} (h:0<d):(d:Rat)≠0:=fun e=>by
 have:((d:Int):Rat)=((0:Int):Rat):=e;have:=Rat.intCast_inj.1 this;omega
theorem rat_pos {d:Int} (h:0<d):(0:Rat)<(d:Rat):=Rat.intCast_pos.2 h
theorem mul_pos_iff {a d:Rat} (h:0<d):0<a*d↔0<a:=by
 constructor
 ·intro h1;refine Rat.not_le.1 (fun h2=>?_);have h3:=Rat.mul_nonneg (show 0<=-a by grind) (Rat.le_of_lt h);have h4 : -a*d = -(a*d):=by grind
  rw [h4] at h3;grind
 ·exact fun h1=>Rat.mul_pos h1 h
def cmpR (a b:Rat):Int:=if a<b then -1 else if a=b then 0 else 1
theorem sgZ_cmp {p q:Int} {d e:Int} {a b:Rat} (hd:0<d) (he:0<e) (hp:(p:Rat)=a*(d:Rat)) (hq:(q:Rat)=b*(e:Rat)):sgZ (p*e - q*d)=cmpR a b:=by
 have hde:=Rat.mul_pos (rat_pos hd) (rat_pos he)
 have e1:((p*e - q*d:Int):Rat)=(a - b)*((d:Rat)*(e:Rat)):=by
  rw [Rat.intCast_sub,Rat.intCast_mul,Rat.intCast_mul,hp,hq];grind
 generalize p*e - q*d=z at e1
 have h1:0<z↔b<a:=by
  have h2:=mul_pos_iff (a:=a - b) hde;rw [<-e1,Rat.intCast_pos] at h2;rw [h2];constructor <;> intro h <;> grind
 have h2:z<0↔a<b:=by
  have h2:=mul_pos_iff (a:=b - a) hde;have e2:(b - a)*((d:Rat)*(e:Rat))=((-z:Int):Rat):=by rw [Rat.intCast_neg,e1];grind
  rw [e2,Rat.intCast_pos] at h2;rw [show z<0↔0 < -z by omega,h2];constructor <;> intro h <;> grind
 unfold sgZ cmpR;by_cases c1:z<0
 ·rw [if_pos c1,if_pos (h2.1 c1)]
 ·rw [if_neg c1,if_neg (fun h=>c1 (h2.2 h))];by_cases c2:z=0
  ·have c3 : a = b := by
    have n1:¬ a<b:=fun h=>c1 (h2.2 h)
    have n2:¬ b<a:=fun h=>by have:=h1.2 h;omega
    have:=Rat.not_lt.1 n1;have:=Rat.not_lt.1 n2;grind
   rw [if_pos c2,if_pos c3]
  ·have c3 : ¬ a = b := fun h => by
    have:b<a:=h1.1 (by omega);rw [h] at this;exact absurd this Rat.lt_irrefl
   rw [if_neg c2,if_neg c3]
theorem sgZ_cmp0 {p d:Int} {a:Rat} (hd:0<d) (hp:(p:Rat)=a*(d:Rat)):sgZ p=cmpR a 0:=by
 have h:=sgZ_cmp (p:=p) (q:=0) (d:=d) (e:=1) (a:=a) (b:=0) hd (by omega) hp (by simp);simpa using h
theorem qv_whole (v : Int) (w : World) (h1 : -9223372036854775808 <= v) (h2 : v < 9223372036854775808) :
  Calls Tryz.prog 16 #[.int .i64 v] w fun ex w'=>∃ r,ex = .returned r/\QV w' r (v:Rat) 5/\Below w.heap.size w w':=by
 refine (whole_any v h1 h2 w).mono ?_;rintro e w' ⟨r,rfl,hr,hb⟩;exact⟨r,rfl,⟨v,1,hr,by simp⟩,hb⟩
theorem qv_mul (x y : Value) (a b : Rat) (k : Nat) (w : World) (hx : QV w x a k) (hy : QV w y b k) (hk : k <= 274877906940) :
  Calls Tryz.prog 48 #[x,y] w fun ex w'=>∃ r,ex = .returned r/\QV w' r (a*b) (2*k)/\Below w.heap.size w w':=by
 obtain⟨p,d,h1,e1⟩:=hx;obtain⟨q,e,h2,e2⟩:=hy;refine (qmul_any x y p d q e k w h1 h2 hk).mono ?_;rintro ex w' ⟨r,rfl,hr,hb⟩;exact⟨r,rfl,⟨_,_,hr,by rw [Rat.intCast_mul,Rat.intCast_mul,e1,e2];grind⟩,hb⟩
theorem qv_add (x y : Value) (a b : Rat) (k : Nat) (w : World) (hx : QV w x a k) (hy : QV w y b k) (hk : k <= 274877906940) :
  Calls Tryz.prog 18 #[x,y] w fun ex w'=>∃ r,ex = .returned r/\QV w' r (a+b) (2*k+1)/\Below w.heap.size w w':=by
 obtain⟨p,d,h1,e1⟩:=hx;obtain⟨q,e,h2,e2⟩:=hy;refine (qadd_any x y p d q e k w h1 h2 hk).mono ?_;rintro ex w' ⟨r,rfl,hr,hb⟩;exact⟨r,rfl,⟨_,_,hr,by rw [Rat.intCast_add,Rat.intCast_mul,Rat.intCast_mul,Rat.intCast_mul,e1,e2];grind⟩,hb⟩
theorem qv_sub (x y : Value) (a b : Rat) (k : Nat) (w : World) (hx : QV w x a k) (hy : QV w y b k) (hk : k <= 274877906940) :
  Calls Tryz.prog 28 #[x,y] w fun ex w'=>∃ r,ex = .returned r/\QV w' r (a - b) (2*k+1)/\Below w.heap.size w w':=by
 obtain⟨p,d,h1,e1⟩:=hx;obtain⟨q,e,h2,e2⟩:=hy;refine (qsub_any x y p d q e k w h1 h2 hk).mono ?_;rintro ex w' ⟨r,rfl,hr,hb⟩;exact⟨r,rfl,⟨_,_,hr,by rw [Rat.intCast_sub,Rat.intCast_mul,Rat.intCast_mul,Rat.intCast_mul,e1,e2];grind⟩,hb⟩
theorem qv_cmp (x y : Value) (a b : Rat) (k : Nat) (w : World) (hx : QV w x a k) (hy : QV w y b k) (hk : k <= 274877906940) :
  Calls Tryz.prog 14 #[x,y] w fun ex w'=>ex = .returned (.int .i64 (cmpR a b))/\Below w.heap.size w w':=by
 obtain⟨p,d,h1,e1⟩:=hx;obtain⟨q,e,h2,e2⟩:=hy;have g1:=h1.pos;have g2:=h2.pos;refine (qcmp_any x y p d q e k w h1 h2 hk).mono ?_;rintro ex w' ⟨rfl,hb⟩;exact⟨by rw [sgZ_cmp g1 g2 e1 e2],hb⟩
theorem qv_sign {s t : Bool} {u u2 : Value} (a : Rat) (k : Nat) (w : World) (h : QV w (.agg #[.bool s, u, .bool t, u2]) a k) :
  Calls Tryz.prog 29 #[.agg #[.bool s,u]] w fun ex w'=>ex = .returned (.int .i64 (cmpR a 0))/\Below w.heap.size w w':=by
 obtain⟨p,d,h1,e1⟩:=h;obtain⟨s1,u1,s2,u2',h0,g1,g2,g3⟩:=h1;injection h0 with h0;injection h0 with h0;simp only [List.cons.injEq,and_true] at h0;obtain⟨h0,h00,-,-⟩:=h0;injection h0 with h0;subst h0 h00;refine (bsign_any _ p k w g1).mono ?_;rintro ex w' ⟨rfl,hb⟩;exact⟨by rw [sgZ_cmp0 g3 e1],hb⟩
set_option maxHeartbeats 4000000 in
theorem qlow_any (x : Value) (p d : Int) (k : Nat) (w : World) (hx : QIs w x p d k) (hk : k <= 274877906940) :
  Calls Tryz.prog 50 #[x] w fun ex w'=>∃ r,ex = .returned r/\QIs w' r (p / ((Int.gcd p d:Nat):Int)) (d / ((Int.gcd p d:Nat):Int)) k/\Below w.heap.size w w':=by
 obtain⟨s1,a1,n1,c1,t1,a2,n2,c2,rfl,HN,HD,hd⟩:=hx.shape;have bn:=HN.out.digits;have bd:=HD.out.digits;clear hx;obtain⟨G,hG⟩:∃ G,G=Int.gcd p d:=⟨_,rfl⟩;have hGp:0<G:=by rw [hG];exact Int.gcd_pos_of_ne_zero_right p (by omega)
 have hGn:((G:Nat):Int) ∣ p:=by rw [hG];exact Int.gcd_dvd_left p d
 have hGd:((G:Nat):Int) ∣ d:=by rw [hG];exact Int.gcd_dvd_right p d
 have m1:p % ((G:Nat):Int)=0:=Int.emod_eq_zero_of_dvd hGn
 have l1:nd (p / ((G:Nat):Int)).natAbs<=k:=Nat.le_trans (nd_mono (by
  rw [Int.natAbs_ediv_of_dvd hGn];exact Nat.div_le_self _ _)) bn
 have l2:nd (d / ((G:Nat):Int)).natAbs<=k:=Nat.le_trans (nd_mono (by
  rw [Int.natAbs_ediv_of_dvd hGd];exact Nat.div_le_self _ _)) bd
 have dp:0<d / ((G:Nat):Int):=by
  obtain⟨c,hc⟩:=hGd;rw [hc,Int.mul_ediv_cancel_left _ (by omega)];refine Int.lt_of_not_ge (fun h=>?_);have:((G:Nat):Int)*c<=0:=Int.mul_nonpos_of_nonneg_of_nonpos (by omega) h;omega
 rw [<-hG];have HG0:=jj hG;have HL:=jj (And.intro l1 l2);have HM:=jj (Or.inr m1:0<=p\/p % ((G:Nat):Int)=0);have HDP:=jj dp;have HD0:=jj hd;have HGP:Hid ((0:Int)<((G:Nat):Int)):=jj (by omega);clear hG hGn hGd m1 l1 l2 dp bn bd hd hGp;have KW:=jj (boxes2 w (Obj.cells #[.bool s1,.slice a1 n1 c1,.bool t1,.slice a2 n2 c2] 40) (Obj.cells #[.bool false,.slice none 0 0,.bool false,.slice none 0 0] 40));have HN:=jj (HN.out.mono KW.out jl);have HD:=jj (HD.out.mono KW.out jl);have P1:=jj ((own4_new w w.heap.size rfl (.bool s1) (.slice a1 n1 c1) (.bool t1) (.slice a2 n2 c2) 40).alloc (Obj.cells #[.bool false,.slice none 0 0,.bool false,.slice none 0 0] 40));have P2:=jj (own4_new (w.alloc (Obj.cells #[.bool s1,.slice a1 n1 c1,.bool t1,.slice a2 n2 c2] 40)) (w.heap.size+1) (by simp) (.bool false) (.slice none 0 0) (.bool false) (.slice none 0 0) 40);obtain⟨x10,x11,x12,x13,_,xl1⟩:=P1.out;go_enter Tryz.func50,Tryz.ntmps50;go_wp2_with fail;refine (zgcd_any _ _ p d k _ HN.out HD.out (by omega)).mono ?_;rintro e w1 ⟨g,rfl,hg,hb1⟩;obtain⟨sg,ag,ng,cg,rfl,HG⟩:=hg.shape;rw [<-HG0.out] at HG;have hba:=hb1.trans ((jr w1).alloc jl (Obj.cells #[.bool sg,.slice ag ng cg] 38) |>.mono hb1.size);have KW:=jj (jb KW.out hba);have HN:=jj (HN.out.mono hba jl);have HD:=jj (HD.out.mono hba jl);have P1:=jj (P1.out.below hba P1.out.lt);have P2:=jj (P2.out.below hba P2.out.lt);have GB:=jj (own2_new w1 w1.heap.size rfl (.bool sg) (.slice ag ng cg) 38);have HG:=jj (HG.out.mono (boxes1 w1 (Obj.cells #[.bool sg,.slice ag ng cg] 38)) jl);clear hg hb1 hba x10 x11 x12 x13 xl1;obtain⟨x10,x11,x12,x13,_,xl1⟩:=P1.out;obtain⟨y0,y1,_,yl⟩:=GB.out;go_wp2_with fail;refine (zdivmod_any _ _ p ((G:Nat):Int) k k _ HN.out HG.out HGP.out HM.out (by omega) (by omega)).mono ?_;rintro e w2 ⟨u2,v2,rfl,hu,hv,hb2⟩;obtain⟨s3,a3,n3,c3,rfl,HU⟩:=(hu.tight HL.out.1).shape;obtain⟨s4,a4,n4,c4,rfl,-⟩:=hv.shape;have hbb:=boxes2 w2 (Obj.cells #[.bool s3,.slice a3 n3 c3] 38) (Obj.cells #[.bool s4,.slice a4 n4 c4] 38);have hba:=jb hb2 hbb;have KW:=jj (jb KW.out hba);have HD:=jj (HD.out.mono hba jl);have P1:=jj (P1.out.below hba P1.out.lt);have P2:=jj (P2.out.below hba P2.out.lt);have GB:=jj (GB.out.below hba GB.out.lt);have HG:=jj (HG.out.mono hba jl);have HU:=jj (HU.out.mono hbb jl);have NB:=jj ((own2_new w2 w2.heap.size rfl (.bool s3) (.slice a3 n3 c3) 38).alloc (Obj.cells #[.bool s4,.slice a4 n4 c4] 38));clear hu hv hb2 hbb hba x10 x11 x12 x13 xl1 y0 y1 yl;obtain⟨x10,x11,x12,x13,_,xl1⟩:=P1.out;obtain⟨y0,y1,_,yl⟩:=GB.out;go_wp2_with fail;refine (zdivmod_any _ _ d ((G:Nat):Int) k k _ HD.out HG.out HGP.out (.inl (by have:=HD0.out;omega)) (by omega) (by omega)).mono ?_;rintro e w3 ⟨u3,v3,rfl,hu,hv,hb3⟩;obtain⟨s5,a5,n5,c5,rfl,HV⟩:=(hu.tight HL.out.2).shape;obtain⟨s6,a6,n6,c6,rfl,-⟩:=hv.shape;have hbb:=boxes2 w3 (Obj.cells #[.bool s5,.slice a5 n5 c5] 38) (Obj.cells #[.bool s6,.slice a6 n6 c6] 38);have hba:=jb hb3 hbb;have KW:=jj (jb KW.out hba);have P2:=jj (P2.out.below hba P2.out.lt);have HU:=jj (HU.out.mono hba jl);have NB:=jj (NB.out.below hba NB.out.lt);have HV:=jj (HV.out.mono hbb jl);have MB:=jj ((own2_new w3 w3.heap.size rfl (.bool s5) (.slice a5 n5 c5) 38).alloc (Obj.cells #[.bool s6,.slice a6 n6 c6] 38));clear hu hv hb3 hbb hba x10 x11 x12 x13 xl1 y0 y1 yl HG GB HD P1;obtain⟨x0,x1,x2,x3,xf,xl⟩:=P2.out;obtain⟨y0,y1,_,yl⟩:=NB.out;obtain⟨z0,z1,_,zl⟩:=MB.out;go_wp2_with fail;refine bodyPost_ret (v:=.agg #[.bool s3,.slice a3 n3 c3,.bool s5,.slice a5 n5 c5]) (by simp [results,Tryz.results50,go_sem,x0,x1,x2,x3,xf,xl]) rfl ?_;exact⟨_,rfl,⟨_,_,_,_,rfl,HU.out.store4 P2.out _ _ _ _,HV.out.store4 P2.out _ _ _ _,HDP.out⟩,below_set4q KW.out (by omega) _ _ _ _⟩
end Go.Proofs.YtgmopcncbpdniaaGreat
namespace Go.Proofs.YtgmopcncbpdniaaGreat
open Go.RowKit
section
variable {P:Program} {w:World}
theorem wp_append_kindz {o : Oper} {a : Act} {K : Act -> World -> Prop} {Q : Exit -> Act -> World -> Prop} (s x : Operand) (t : TypeId)
  (ho:o.op = .call { callee:=.builtin .append,args:=#[s,x],argTypes:=#[t,t] })
  (base:Nat) (e:TypeId) (i:TypeInfo) (z:Value) (size bytes:Nat) (ht:P.underlying t=some (.slice e)) (hi:P.info? e=some i) (hz:i.zero=some z)
  (hsize:i.size=size) (hby:i.bytes=bytes) (hzs:z.cells.size=size) (hsz:0<size)
  (v:Value) (n:Nat) (xs:List Value) (hs:a.eval s=v) (hown:w.ownsRow base e size v n xs) (hkind:KindZ w v) (hzk:∀ u ∈ z.cells.toList,NoInt u)
  (ad:Addr) (m c:Nat) (news:List Value) (hx:a.eval x = .slice (some ad) m c) (hl:news.length=m*size) (hnews:∀ j u,news[j]? = some u->w.cell? (ad.add j)=some u) (h1:∀ u ∈ news,u.oneCell'=true) (hnk:∀ u ∈ news,NoInt u)
  (h63:n+m<=maxLen) (hbytes:(n+m)*bytes<=140737488355328) (hbase:base<=w.heap.size) (hm:0<m)
  (h:∀ v' w',w'.ownsRow base e size v' (n+m) (xs ++ news)->w.grownBy w' v.ownBlock->(v'.ownBlock=v.ownBlock\/v'.ownBlock=some w.heap.size)->KindZ w' v'->K (a.put o.dst v') w'):o.wp P a w K Q:=by
 obtain⟨v',w',hr,h2,h3,h5,h6⟩:=run_append_kindz (P:=P) base t o.type e i z size bytes ht hi hz hsize hby hzs hsz v n xs hown hkind hzk ad m c news hl hnews h1 hnk h63 hbytes hbase hm;unfold Oper.wp execOp;simp only [ho,resolve,invoke,builtin,Sem.run_bind,Sem.run_pure,Result.andThen_ok,List.map_toArray,List.map_cons,List.map_nil,hs,hx,hr];exact h v' w' h2 h3 h5 h6
theorem step_append_kindz {ops : Array Oper} {o : Oper} {a : Act} {K : Act -> World -> Prop} {Q : Exit -> Act -> World -> Prop} {E : Prop} (hgd : o.guard = none) (s x : Operand) (t : TypeId)
  (ho:o.op = .call { callee:=.builtin .append,args:=#[s,x],argTypes:=#[t,t] })
  (base:Nat) (e:TypeId) (i:TypeInfo) (z:Value) (size bytes:Nat) (ht:P.underlying t=some (.slice e)) (hi:P.info? e=some i) (hz:i.zero=some z)
  (hsize:i.size=size) (hby:i.bytes=bytes) (hzs:z.cells.size=size) (hsz:0<size)
  (v:Value) (n:Nat) (xs:List Value) (hs:a.eval s=v) (hown:w.ownsRow base e size v n xs) (hkind:KindZ w v) (hzk:∀ u ∈ z.cells.toList,NoInt u)
  (ad:Addr) (m c:Nat) (news:List Value) (hx:a.eval x = .slice (some ad) m c) (hl:news.length=m*size) (hnews:∀ j u,news[j]? = some u->w.cell? (ad.add j)=some u) (h1:∀ u ∈ news,u.oneCell'=true) (hnk:∀ u ∈ news,NoInt u)
  (h63:n+m<=maxLen) (hbytes:(n+m)*bytes<=140737488355328) (hbase:base<=w.heap.size) (hm:0<m)
  (h:∀ v' w',w'.ownsRow base e size v' (n+m) (xs ++ news)->w.grownBy w' v.ownBlock->(v'.ownBlock=v.ownBlock\/v'.ownBlock=some w.heap.size)->KindZ w' v'->K (a.put o.dst v') w') :
  if Region.wanted o (yielded ops a.tmps)=true then Oper.wp P o a w K Q else E:=by
 have hw:Region.wanted o (yielded ops a.tmps)=true:=by simp [Region.wanted,hgd]
 rw [if_pos hw];exact wp_append_kindz s x t ho base e i z size bytes ht hi hz hsize hby hzs hsz v n xs hs hown hkind hzk ad m c news hx hl hnews h1 hnk h63 hbytes hbase hm h
end
end Go.Proofs.YtgmopcncbpdniaaGreat
namespace Go.Proofs.YtgmopcncbpdniaaGreat
def dv (c:Nat):Nat:=if 48<=c/\c<=57 then c - 48 else 0
theorem dv_lt (c:Nat):dv c<10:=by unfold dv;split <;> omega
def valT (g:Nat->Nat):Nat->Nat
 | 0=>0
 | n+1=>10*valT g n+g n
theorem valT_congr {g h:Nat->Nat} : ∀ n,(∀ i,i<n->g i=h i)->valT g n=valT h n
 | 0,_=>rfl
 | n+1,e=>by simp only [valT];rw [valT_congr n (fun i hi=>e i (by omega)),e n (by omega)]
theorem valT_lt {g:Nat->Nat} (h:∀ i,g i<10):∀ n,valT g n<10 ^ n
 | 0=>by simp [valT]
 | n+1=>by
  have h1:=valT_lt h n;have h2:=h n;simp only [valT,Nat.pow_succ];omega
theorem valT_split (g:Nat->Nat) (lo:Nat):∀ d,valT g (lo+d)=valT g lo*10 ^ d+valT (fun i=>g (lo+i)) d
 | 0=>by simp [valT]
 | d+1=>by
  show 10*valT g (lo+d)+g (lo+d)=_;rw [valT_split g lo d];simp only [valT,Nat.pow_succ];rw [Nat.mul_add,<-Nat.mul_assoc,Nat.mul_comm 10,Nat.mul_assoc,Nat.mul_comm 10];omega
theorem valT_div {g:Nat->Nat} (h:∀ i,g i<10) (lo d:Nat):valT g (lo+d) / 10 ^ d=valT g lo:=by
 rw [valT_split,Nat.mul_comm,Nat.mul_add_div (Nat.pow_pos (by omega)),Nat.div_eq_of_lt (valT_lt (fun i=>h (lo+i)) d)];omega
theorem valT_block {g:Nat->Nat} (h:∀ i,g i<10) (L k at' lo d:Nat) (h1:L=at'+4*k) (h2:at'=lo+d) (h3:d=4\/(d<4/\lo=0)):valT (fun i=>g (lo+i)) d=dg (valT g L) k:=by
 unfold dg;have e:(10000:Nat) ^ k=10 ^ (4*k):=by rw [Nat.pow_mul]
 rw [e,h1,valT_div h at' (4*k),h2,valT_split];have hl:=valT_lt (g:=fun i=>g (lo+i)) (fun i=>h (lo+i)) d;rcases h3 with rfl | ⟨h3,rfl⟩
 ·omega
 ·simp only [valT,Nat.zero_mul,Nat.zero_add] at hl ⊢;have:(10:Nat) ^ d<=10 ^ 4:=Nat.pow_le_pow_right (by omega) (by omega);rw [Nat.mod_eq_of_lt (by omega)]
theorem valT_nd {g:Nat->Nat} (h:∀ i,g i<10) (L K:Nat) (hK:L<=4*K):nd (valT g L)<=K:=by
 rw [nd_le];have e:(10000:Nat) ^ K=10 ^ (4*K):=by rw [Nat.pow_mul]
 rw [e];exact jm (valT_lt h L) (Nat.pow_le_pow_right (by omega) hK)
def okD (L:Nat) (f:Nat->Nat):Prop:=1<=L/\L<=4000/\¬ (f 0=48/\1<L)/\∀ i,i<L->48<=f i/\f i<=57
def numD (L:Nat) (f:Nat->Nat):Nat:=valT (fun i=>dv (f i)) L
end Go.Proofs.YtgmopcncbpdniaaGreat
