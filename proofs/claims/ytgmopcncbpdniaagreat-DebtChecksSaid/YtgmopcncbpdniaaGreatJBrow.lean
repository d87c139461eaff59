import Derived.Test.YtgmopcncbpdniaaGreatJSlv
import Derived.Maps.AppendAt
import Derived.Test.YtgmopcncbpdniaaGreatJBig18
import Derived.Test.YtgmopcncbpdniaaGreatJPlainR
import Derived.Test.YtgmopcncbpdniaaGreatJTakes
import Derived.Test.YtgmopcncbpdniaaGreatJPlainD
import Derived.Deep.Strs
set_option linter.unusedVariables false
set_option linter.unusedSimpArgs false
namespace Go.Proofs.YtgmopcncbpdniaaGreat
open Go.RowKit
def NoLimb (v:Value):Prop:=∀ z,v≠.int .u32 z
def KindB (w:World) (v:Value):Prop:=∀ g,v.ownBlock=some g→∀ o x,w.cell? ⟨g,o,none⟩=some x→NoLimb x
theorem kind_nil (w:World) (n c:Nat):KindB w (.slice none n c):=fun g h=>by cases h
theorem KindB.below {w w':World} {v:Value} {B:Nat} (h:KindB w v) (hb:Below B w w') (hl:∀ g,v.ownBlock=some g→g<B):KindB w' v:=fun g hg o x hx=>by
  rw [hb.cell (p:=⟨g,o,none⟩) (hl g hg)] at hx
  exact h g hg o x hx
theorem mag_keep {w w':World} {u v:Value} {x:Nat} (h:Mag w u x) (hk:KindB w v) (hg:w.grownBy w' v.ownBlock):Mag w' u x:=by
  obtain⟨a,b,o,c,rfl,hs⟩:=h
  refine⟨a,b,o,c,rfl,⟨hs.cap,hs.at_,fun q=>Nat.lt_of_lt_of_le (hs.lt q) hg.size,fun i hi=>?_,hs.nc⟩⟩
  have hb:=hs.lt (by omega)
  have hc:=hs.cell i hi
  rw [←hc]
  unfold World.cell?
  rw [hg.block b hb (fun e=>hk b e.symm _ _ hc _ rfl)]
theorem rat_keep {w w':World} {u v:Value} {q:Rat} {m:Nat} (h:RatIs w u q m) (hk:KindB w v) (hg:w.grownBy w' v.ownBlock):RatIs w' u q m:=by
  obtain⟨a,d,rfl,h1,h2,h3⟩:=h
  exact⟨a,d,rfl,mag_keep h1 hk hg,mag_keep h2 hk hg,h3⟩
theorem rd4_keep {w w':World} {row:Option Nat} {b o:Nat} {x y z u:Value} (h:Rd4 w b o x y z u) (hg:w.grownBy w' row) (hne:some b≠row):Rd4 w' b o x y z u:=by
  have k:∀ j,w'.cell? ⟨b,j,none⟩=w.cell? ⟨b,j,none⟩:=fun j=>World.cell?_of_block (hg.block b h.lt hne)
  exact⟨(k _).trans h.c0,(k _).trans h.c1,(k _).trans h.c2,(k _).trans h.c3,Nat.lt_of_lt_of_le h.lt hg.size⟩
theorem RowP.keep' {w w':World} {v:Value} {g n K:Nat} {P:Nat→Prop} {q:Nat→Rat} (h:RowP w g n P q K) (hk:KindB w v) (hg:w.grownBy w' v.ownBlock) (hne:some g≠v.ownBlock):RowP w' g n P q K:=
  ⟨fun j hj=>by
    obtain⟨s,a,m,c,a2,m2,c2,h1,h2⟩:=h.cell j hj
    exact⟨s,a,m,c,a2,m2,c2,rd4_keep h1 hg hne,fun p=>rat_keep (h2 p) hk hg⟩,
   fun o=>(World.frozen?_of_block (hg.block g h.lt hne)).trans (h.f o),Nat.lt_of_lt_of_le h.lt hg.size⟩
theorem RMat.keep' {w w' : World} {v : Value} {B g k cols K : Nat} {rb rc : Nat → Nat} {Q : Nat → Nat → Rat} (h : RMat w B g k cols rb rc Q K) (hk : KindB w v) (hg : w.grownBy w' v.ownBlock) (h1 : some g ≠ v.ownBlock) (h2 : ∀ i, i < k → some (rb i) ≠ v.ownBlock) :
    RMat w' B g k cols rb rc Q K:=
  ⟨fun i hi=>(World.cell?_of_block (hg.block g h.gl h1)).trans (h.hdr i hi),fun o=>(World.frozen?_of_block (hg.block g h.gl h1)).trans (h.hf o),h.gB,Nat.lt_of_lt_of_le h.gl hg.size,
   fun i hi=>(h.row i hi).keep' hk hg (h2 i hi),h.rB,h.ne,h.apart⟩
theorem own_st4 {w:World} {base e s n:Nat} {v:Value} {xs:List Value} (h:w.ownsRow base e s v n xs) (b o:Nat) (hne:v.ownBlock≠some b) (u0 u1 u2 u3:Value):(st4 w b o u0 u1 u2 u3).ownsRow base e s v n xs:=
  h.kept (row:=some b) ⟨rfl,rfl,rfl,by rw [size_st4];exact Nat.le_refl _,fun k hk hkb=>by
    have:k≠b:=fun e=>hkb (by rw [e])
    simp only [st4]
    rw [Below.heap_setCell _ _ _ _ this,Below.heap_setCell _ _ _ _ this,Below.heap_setCell _ _ _ _ this,Below.heap_setCell _ _ _ _ this]⟩ (.inr hne)
theorem kind_st4 {w:World} {v:Value} (h:KindB w v) (b o:Nat) (hne:v.ownBlock≠some b) (u0 u1 u2 u3:Value):KindB (st4 w b o u0 u1 u2 u3) v:=fun g hg o' x hx=>by
  have:b≠g:=fun e=>hne (by rw [hg,e])
  rw [far4 _ _ _ _ this] at hx
  exact h g hg o' x hx
theorem cell_of {w:World} {g o:Nat} {cur:Array Value} {t:TypeId} {fr:Nat × Nat} (hg:w.heap[g]? = some (.cells cur t fr)):w.cell? ⟨g,o,none⟩=cur[o]?:=by
  simp [World.cell?,hg]
theorem noLimb_zero {z:Array Value} {n:Nat} (hz:∀ u ∈ z.toList,NoLimb u) (h0:0<z.size):∀ u ∈ (Builtin.zeroCells z n).toList,NoLimb u:=fun u hu=>by
  unfold Builtin.zeroCells at hu
  simp at hu
  obtain⟨a,ha,rfl⟩:=hu
  have hlt:a % z.size<z.size:=Nat.mod_lt _ h0
  rw [getElem!_pos z (a % z.size) hlt]
  exact hz _ (by simp)
section
variable {P:Program} {w:World}
theorem run_append_kind (base : Nat) (t ty e : TypeId) (i : TypeInfo) (z : Value) (size bytes : Nat) (ht : P.underlying t = some (.slice e)) (hi : P.info? e = some i) (hz : i.zero = some z)
    (hsize:i.size=size) (hby:i.bytes=bytes) (hzs:z.cells.size=size) (hsz:0<size)
    (v:Value) (n:Nat) (xs:List Value) (hown:w.ownsRow base e size v n xs) (hkind:KindB w v) (hzk:∀ u ∈ z.cells.toList,NoLimb u)
    (a:Addr) (m c:Nat) (news:List Value) (hl:news.length=m*size) (hnews:∀ j u,news[j]? = some u→w.cell? (a.add j)=some u) (h1:∀ u ∈ news,u.oneCell'=true) (hnk:∀ u ∈ news,NoLimb u)
    (h63:n+m≤maxLen) (hbytes:(n+m)*bytes≤140737488355328) (hbase:base≤w.heap.size) (hm:0<m) :
    ∃ v' w',(Builtin.append_ #[t,t] ty #[v,.slice (some a) m c]).run P w = .ok v' w'∧w'.ownsRow base e size v' (n+m) (xs ++ news)∧w.grownBy w' v.ownBlock∧
      (v'.ownBlock=v.ownBlock∨v'.ownBlock=some w.heap.size)∧KindB w' v':=by
  obtain⟨v',w',hr,h2,h3,_,h5⟩:=run_append_own_at (P:=P) w base t ty e i z size bytes ht hi hz hsize hby hzs hsz v n xs hown a m c news hl hnews h1 h63 hbytes hbase
  refine⟨v',w',hr,h2,h3,h5,?_⟩
  subst hsize
  subst hby
  have hsmall:n+m≤9223372036854775807:=by simp only [maxLen] at h63;omega
  have hnew:∀ (l:List Value) (cap:Nat),(∀ u ∈ l,NoLimb u)→KindB (w.drew.alloc (.cells (l.toArray ++ Builtin.zeroCells z.cells cap) e)) (.slice (some ⟨w.heap.size,0,none⟩) (n+m) (cap+(n+m))):=fun l cap hlk g hg o x hx=>by
    have:w.heap.size=g:=Option.some.inj hg
    subst this
    have hcell:(w.drew.alloc (.cells (l.toArray ++ Builtin.zeroCells z.cells cap) e)).cell? ⟨w.heap.size,o,none⟩=(l.toArray ++ Builtin.zeroCells z.cells cap)[o]?:=cell_of (t:=e) (fr:=(0,0)) (heap_alloc_new w.drew _)
    rw [hcell] at hx
    have hmem:x ∈ (l.toArray ++ Builtin.zeroCells z.cells cap).toList:=by
      rw [←Array.getElem?_toList] at hx
      exact List.mem_of_getElem? hx
    rw [Array.toList_append] at hmem
    rcases List.mem_append.1 hmem with h | h
    · exact hlk x (by simpa using h)
    · exact noLimb_zero hzk (by omega) x h
  have hxk:∀ u ∈ xs,NoLimb u:=fun u hu=>by
    obtain⟨j,hj,rfl⟩:=List.mem_iff_getElem.1 hu
    rcases hob:v.ownBlock with _ | g
    · rcases hown.2 with ⟨rfl,rfl⟩ | ⟨g,cap,cur,rfl,_⟩
      · have:=hown.1;omega
      · cases hob
    · have hc:=hown.cells hob j xs[j] (by simp)
      rw [add_at,Nat.zero_add] at hc
      exact hkind g hob j _ hc
  rcases hown.2 with ⟨rfl,rfl⟩ | ⟨g,cap,cur,rfl,hbg,hg,hnc,hcm,hcs,htake⟩
  · have hr2:=run_append_nil (P:=P) w t ty e i z ht hi hz a m c news hl hnews hm (by omega) (by have hb:=hbytes;simp only [Nat.zero_add] at hb;omega)
    rw [hr2] at hr
    injection hr with e1 e2
    subst e1;subst e2
    have h:=hnew news (grownCap w m 0 e - m) hnk
    intro g hg o x hx
    exact h g hg o x hx
  · by_cases hroom:n+m≤cap
    · have hfit:n*i.size+news.length≤cur.size:=by rw [hl,hcs,←Nat.add_mul];exact Nat.mul_le_mul_right _ hroom
      have hr2:=run_append_room (P:=P) w t ty e i ht hi g n cap cur hg a m c news hl hnews h1 hroom hfit
      rw [hr2] at hr
      injection hr with e1 e2
      subst e1;subst e2
      intro g' hg' o x hx
      have:g=g':=Option.some.inj hg'
      subst this
      rw [cell_of (setRow_heap w g cur _ e _ hg)] at hx
      have hmem:x ∈ (cur.toList.take (n*i.size) ++ news ++ cur.toList.drop (n*i.size+news.length)):=by
        rw [List.getElem?_toArray] at hx
        exact List.mem_of_getElem? hx
      have hcur:∀ u ∈ cur.toList,NoLimb u:=fun u hu=>by
        obtain⟨j,hj,rfl⟩:=List.mem_iff_getElem.1 hu
        refine hkind g rfl j _ ?_
        rw [cell_of hg]
        simp
      rcases List.mem_append.1 hmem with h | h
      · rcases List.mem_append.1 h with h | h
        · exact hcur x (List.mem_of_mem_take h)
        · exact hnk x h
      · exact hcur x (List.mem_of_mem_drop h)
    · have holds:∀ j u,xs[j]? = some u→w.cell? ((⟨g,0,none⟩:Addr).add j)=some u:=hown.cells (g:=g) rfl
      have hr2:=run_append_grow (P:=P) w t ty e i z ht hi hz ⟨g,0,none⟩ n cap xs hown.1 holds a m c news hl hnews (by omega) (by omega) (growslice_fits (by omega) hbytes)
      rw [hr2] at hr
      injection hr with e1 e2
      subst e1;subst e2
      have h:=hnew (xs ++ news) (grownCap w (n+m) cap e - (n+m)) (fun u hu=>(List.mem_append.1 hu).elim (hxk u) (hnk u))
      intro g' hg' o x hx
      refine h g' hg' o x ?_
      simpa using hx
theorem wpList_append_kind {ops : Array Oper} {rest : List Oper} {o : Oper} {a : Act} {Q : Exit → Act → World → Prop} (hgd : o.guard = none) (s x : Operand) (t : TypeId)
    (ho:o.op = .call { callee:=.builtin .append,args:=#[s,x],argTypes:=#[t,t] })
    (base:Nat) (e:TypeId) (i:TypeInfo) (z:Value) (size bytes:Nat) (ht:P.underlying t=some (.slice e)) (hi:P.info? e=some i) (hz:i.zero=some z)
    (hsize:i.size=size) (hby:i.bytes=bytes) (hzs:z.cells.size=size) (hsz:0<size)
    (v:Value) (n:Nat) (xs:List Value) (hs:a.eval s=v) (hown:w.ownsRow base e size v n xs) (hkind:KindB w v) (hzk:∀ u ∈ z.cells.toList,NoLimb u)
    (ad:Addr) (m c:Nat) (news:List Value) (hx:a.eval x = .slice (some ad) m c) (hl:news.length=m*size) (hnews:∀ j u,news[j]? = some u→w.cell? (ad.add j)=some u) (h1:∀ u ∈ news,u.oneCell'=true) (hnk:∀ u ∈ news,NoLimb u)
    (h63:n+m≤maxLen) (hbytes:(n+m)*bytes≤140737488355328) (hbase:base≤w.heap.size) (hm:0<m)
    (h:∀ v' w',w'.ownsRow base e size v' (n+m) (xs ++ news)→w.grownBy w' v.ownBlock→(v'.ownBlock=v.ownBlock∨v'.ownBlock=some w.heap.size)→KindB w' v'→wpList P ops Q rest (a.put o.dst v') w'):wpList P ops Q (o :: rest) a w:=by
  refine wpList_plain hgd fun K hK=>?_
  obtain⟨v',w',hr,h2,h3,h5,h6⟩:=run_append_kind (P:=P) base t o.type e i z size bytes ht hi hz hsize hby hzs hsz v n xs hown hkind hzk ad m c news hl hnews h1 hnk h63 hbytes hbase hm
  unfold Oper.wp execOp
  simp only [ho,resolve,invoke,builtin,Sem.run_bind,Sem.run_pure,Result.andThen_ok,List.map_toArray,List.map_cons,List.map_nil,hs,hx,hr]
  exact hK _ _ (h v' w' h2 h3 h5 h6)
end
end Go.Proofs.YtgmopcncbpdniaaGreat
namespace Go.Proofs.YtgmopcncbpdniaaGreat
open Go.RowKit
def KindZ (w:World) (v:Value):Prop:=∀ g,v.ownBlock=some g→∀ o x,w.cell? ⟨g,o,none⟩=some x→NoInt x
theorem KindZ.below {w w':World} {v:Value} {B:Nat} (h:KindZ w v) (hb:Below B w w') (hl:∀ g,v.ownBlock=some g→g<B):KindZ w' v:=fun g hg o x hx=>by
  rw [hb.cell (p:=⟨g,o,none⟩) (hl g hg)] at hx
  exact h g hg o x hx
theorem dg_keepz {w w':World} {u v:Value} {x:Nat} (h:Dg w u x) (hk:KindZ w v) (hg:w.grownBy w' v.ownBlock):Dg w' u x:=by
  obtain⟨a,b,o,c,rfl,hs⟩:=h
  refine⟨a,b,o,c,rfl,⟨hs.cap,hs.at_,fun q=>Nat.lt_of_lt_of_le (hs.lt q) hg.size,fun i hi=>?_,hs.nc⟩⟩
  have hb:=hs.lt (by omega)
  have hc:=hs.cell i hi
  rw [←hc]
  unfold World.cell?
  rw [hg.block b hb (fun e=>hk b e.symm _ _ hc _ _ rfl)]
theorem ZIs.keep {w w':World} {u v:Value} {z:Int} {m:Nat} (h:ZIs w u z m) (hk:KindZ w v) (hg:w.grownBy w' v.ownBlock):ZIs w' u z m:=by
  obtain⟨x,h1,h2,h3⟩:=h
  exact⟨x,h1,dg_keepz h2 hk hg,h3⟩
theorem QIs.keep {w w':World} {u v:Value} {n d:Int} {m:Nat} (h:QIs w u n d m) (hk:KindZ w v) (hg:w.grownBy w' v.ownBlock):QIs w' u n d m:=by
  obtain⟨s1,u1,s2,u2,h0,h1,h2,h3⟩:=h
  exact⟨s1,u1,s2,u2,h0,h1.keep hk hg,h2.keep hk hg,h3⟩
theorem noInt_zero {z:Array Value} {n:Nat} (hz:∀ u ∈ z.toList,NoInt u) (h0:0<z.size):∀ u ∈ (Builtin.zeroCells z n).toList,NoInt u:=fun u hu=>by
  unfold Builtin.zeroCells at hu
  simp at hu
  obtain⟨a,ha,rfl⟩:=hu
  have hlt:a % z.size<z.size:=Nat.mod_lt _ h0
  rw [getElem!_pos z (a % z.size) hlt]
  exact hz _ (by simp)
section
variable {P:Program} {w:World}
theorem run_append_kindz (base : Nat) (t ty e : TypeId) (i : TypeInfo) (z : Value) (size bytes : Nat) (ht : P.underlying t = some (.slice e)) (hi : P.info? e = some i) (hz : i.zero = some z)
    (hsize:i.size=size) (hby:i.bytes=bytes) (hzs:z.cells.size=size) (hsz:0<size)
    (v:Value) (n:Nat) (xs:List Value) (hown:w.ownsRow base e size v n xs) (hkind:KindZ w v) (hzk:∀ u ∈ z.cells.toList,NoInt u)
    (a:Addr) (m c:Nat) (news:List Value) (hl:news.length=m*size) (hnews:∀ j u,news[j]? = some u→w.cell? (a.add j)=some u) (h1:∀ u ∈ news,u.oneCell'=true) (hnk:∀ u ∈ news,NoInt u)
    (h63:n+m≤maxLen) (hbytes:(n+m)*bytes≤140737488355328) (hbase:base≤w.heap.size) (hm:0<m) :
    ∃ v' w',(Builtin.append_ #[t,t] ty #[v,.slice (some a) m c]).run P w = .ok v' w'∧w'.ownsRow base e size v' (n+m) (xs ++ news)∧w.grownBy w' v.ownBlock∧
      (v'.ownBlock=v.ownBlock∨v'.ownBlock=some w.heap.size)∧KindZ w' v':=by
  obtain⟨v',w',hr,h2,h3,_,h5⟩:=run_append_own_at (P:=P) w base t ty e i z size bytes ht hi hz hsize hby hzs hsz v n xs hown a m c news hl hnews h1 h63 hbytes hbase
  refine⟨v',w',hr,h2,h3,h5,?_⟩
  subst hsize
  subst hby
  have hsmall:n+m≤9223372036854775807:=by simp only [maxLen] at h63;omega
  have hnew:∀ (l:List Value) (cap:Nat),(∀ u ∈ l,NoInt u)→KindZ (w.drew.alloc (.cells (l.toArray ++ Builtin.zeroCells z.cells cap) e)) (.slice (some ⟨w.heap.size,0,none⟩) (n+m) (cap+(n+m))):=fun l cap hlk g hg o x hx=>by
    have:w.heap.size=g:=Option.some.inj hg
    subst this
    have hcell:(w.drew.alloc (.cells (l.toArray ++ Builtin.zeroCells z.cells cap) e)).cell? ⟨w.heap.size,o,none⟩=(l.toArray ++ Builtin.zeroCells z.cells cap)[o]?:=cell_of (t:=e) (fr:=(0,0)) (heap_alloc_new w.drew _)
    rw [hcell] at hx
    have hmem:x ∈ (l.toArray ++ Builtin.zeroCells z.cells cap).toList:=by
      rw [←Array.getElem?_toList] at hx
      exact List.mem_of_getElem? hx
    rw [Array.toList_append] at hmem
    rcases List.mem_append.1 hmem with h | h
    · exact hlk x (by simpa using h)
    · exact noInt_zero hzk (by omega) x h
  have hxk:∀ u ∈ xs,NoInt u:=fun u hu=>by
    obtain⟨j,hj,rfl⟩:=List.mem_iff_getElem.1 hu
    rcases hob:v.ownBlock with _ | g
    · rcases hown.2 with ⟨rfl,rfl⟩ | ⟨g,cap,cur,rfl,_⟩
      · have:=hown.1;omega
      · cases hob
    · have hc:=hown.cells hob j xs[j] (by simp)
      rw [add_at,Nat.zero_add] at hc
      exact hkind g hob j _ hc
  rcases hown.2 with ⟨rfl,rfl⟩ | ⟨g,cap,cur,rfl,hbg,hg,hnc,hcm,hcs,htake⟩
  · have hr2:=run_append_nil (P:=P) w t ty e i z ht hi hz a m c news hl hnews hm (by omega) (by have hb:=hbytes;simp only [Nat.zero_add] at hb;omega)
    rw [hr2] at hr
    injection hr with e1 e2
    subst e1;subst e2
    have h:=hnew news (grownCap w m 0 e - m) hnk
    intro g hg o x hx
    exact h g hg o x hx
  · by_cases hroom:n+m≤cap
    · have hfit:n*i.size+news.length≤cur.size:=by rw [hl,hcs,←Nat.add_mul];exact Nat.mul_le_mul_right _ hroom
      have hr2:=run_append_room (P:=P) w t ty e i ht hi g n cap cur hg a m c news hl hnews h1 hroom hfit
      rw [hr2] at hr
      injection hr with e1 e2
      subst e1;subst e2
      intro g' hg' o x hx
      have:g=g':=Option.some.inj hg'
      subst this
      rw [cell_of (setRow_heap w g cur _ e _ hg)] at hx
      have hmem:x ∈ (cur.toList.take (n*i.size) ++ news ++ cur.toList.drop (n*i.size+news.length)):=by
        rw [List.getElem?_toArray] at hx
        exact List.mem_of_getElem? hx
      have hcur:∀ u ∈ cur.toList,NoInt u:=fun u hu=>by
        obtain⟨j,hj,rfl⟩:=List.mem_iff_getElem.1 hu
        refine hkind g rfl j _ ?_
        rw [cell_of hg]
        simp
      rcases List.mem_append.1 hmem with h | h
      · rcases List.mem_append.1 h with h | h
        · exact hcur x (List.mem_of_mem_take h)
        · exact hnk x h
      · exact hcur x (List.mem_of_mem_drop h)
    · have holds:∀ j u,xs[j]? = some u→w.cell? ((⟨g,0,none⟩:Addr).add j)=some u:=hown.cells (g:=g) rfl
      have hr2:=run_append_grow (P:=P) w t ty e i z ht hi hz ⟨g,0,none⟩ n cap xs hown.1 holds a m c news hl hnews (by omega) (by omega) (growslice_fits (by omega) hbytes)
      rw [hr2] at hr
      injection hr with e1 e2
      subst e1;subst e2
      have h:=hnew (xs ++ news) (grownCap w (n+m) cap e - (n+m)) (fun u hu=>(List.mem_append.1 hu).elim (hxk u) (hnk u))
      intro g' hg' o x hx
      refine h g' hg' o x ?_
      simpa using hx
theorem wpList_append_kindz {ops : Array Oper} {rest : List Oper} {o : Oper} {a : Act} {Q : Exit → Act → World → Prop} (hgd : o.guard = none) (s x : Operand) (t : TypeId)
    (ho:o.op = .call { callee:=.builtin .append,args:=#[s,x],argTypes:=#[t,t] })
    (base:Nat) (e:TypeId) (i:TypeInfo) (z:Value) (size bytes:Nat) (ht:P.underlying t=some (.slice e)) (hi:P.info? e=some i) (hz:i.zero=some z)
    (hsize:i.size=size) (hby:i.bytes=bytes) (hzs:z.cells.size=size) (hsz:0<size)
    (v:Value) (n:Nat) (xs:List Value) (hs:a.eval s=v) (hown:w.ownsRow base e size v n xs) (hkind:KindZ w v) (hzk:∀ u ∈ z.cells.toList,NoInt u)
    (ad:Addr) (m c:Nat) (news:List Value) (hx:a.eval x = .slice (some ad) m c) (hl:news.length=m*size) (hnews:∀ j u,news[j]? = some u→w.cell? (ad.add j)=some u) (h1:∀ u ∈ news,u.oneCell'=true) (hnk:∀ u ∈ news,NoInt u)
    (h63:n+m≤maxLen) (hbytes:(n+m)*bytes≤140737488355328) (hbase:base≤w.heap.size) (hm:0<m)
    (h:∀ v' w',w'.ownsRow base e size v' (n+m) (xs ++ news)→w.grownBy w' v.ownBlock→(v'.ownBlock=v.ownBlock∨v'.ownBlock=some w.heap.size)→KindZ w' v'→wpList P ops Q rest (a.put o.dst v') w'):wpList P ops Q (o :: rest) a w:=by
  refine wpList_plain hgd fun K hK=>?_
  obtain⟨v',w',hr,h2,h3,h5,h6⟩:=run_append_kindz (P:=P) base t o.type e i z size bytes ht hi hz hsize hby hzs hsz v n xs hown hkind hzk ad m c news hl hnews h1 hnk h63 hbytes hbase hm
  unfold Oper.wp execOp
  simp only [ho,resolve,invoke,builtin,Sem.run_bind,Sem.run_pure,Result.andThen_ok,List.map_toArray,List.map_cons,List.map_nil,hs,hx,hr]
  exact hK _ _ (h v' w' h2 h3 h5 h6)
end
structure QRow (w:World) (base:Nat) (v:Value) (r:Nat) (p d:Nat→Int) (K:Nat) (xs:List Value):Prop where
  kind:KindZ w v
  own:w.ownsRow base 40 4 v r xs
  val:∀ j,j<r→∃ s a m c t a2 m2 c2,xs[j*4]? = some (.bool s)∧xs[j*4+1]? = some (.slice a m c)∧xs[j*4+2]? = some (.bool t)∧xs[j*4+3]? = some (.slice a2 m2 c2)∧QIs w (.agg #[.bool s,.slice a m c,.bool t,.slice a2 m2 c2]) (p j) (d j) K
variable {w w':World} {base r K:Nat} {v:Value} {p d:Nat→Int} {xs:List Value}
theorem QRow.nil (w:World) (base:Nat) (p d:Nat→Int) (K:Nat) (v:Value) (h:w.ownsRow base 40 4 v 0 []) (hk:KindZ w v):QRow w base v 0 p d K []:=⟨hk,h,fun j hj=>by omega⟩
theorem QRow.below (h:QRow w base v r p d K xs) (hb:Below w.heap.size w w'):QRow w' base v r p d K xs:=
  ⟨h.kind.below hb (fun g hg=>(h.own.lt g hg).2),own_kept h.own hb,fun j hj=>by
    obtain⟨s,a,m,c,t,a2,m2,c2,h1,h2,h3,h4,h5⟩:=h.val j hj
    exact⟨s,a,m,c,t,a2,m2,c2,h1,h2,h3,h4,h5.mono hb (Nat.le_refl _)⟩⟩
theorem QRow.push {v' : Value} {x y : Int} {s t : Bool} {a a2 : Option Addr} {m c m2 c2 : Nat} (h : QRow w base v r p d K xs) (hx : QIs w (.agg #[.bool s, .slice a m c, .bool t, .slice a2 m2 c2]) x y K) (hq : p r = x) (hq2 : d r = y)
    (hgrow:w.grownBy w' v.ownBlock) (hown:w'.ownsRow base 40 4 v' (r+1) (xs ++ [.bool s,.slice a m c,.bool t,.slice a2 m2 c2])) (hkind:KindZ w' v'):QRow w' base v' (r+1) p d K (xs ++ [.bool s,.slice a m c,.bool t,.slice a2 m2 c2]):=by
  have hl:=h.own.1
  refine⟨hkind,hown,fun j hj=>?_⟩
  by_cases e:j<r
  · obtain⟨s',a',m',c',t',a2',m2',c2',h1,h2,h3,h4,h5⟩:=h.val j e
    exact⟨s',a',m',c',t',a2',m2',c2',by rw [List.getElem?_append_left (by omega)];exact h1,by rw [List.getElem?_append_left (by omega)];exact h2,by rw [List.getElem?_append_left (by omega)];exact h3,by rw [List.getElem?_append_left (by omega)];exact h4,h5.keep h.kind hgrow⟩
  · obtain rfl:j=r:=by omega
    refine⟨s,a,m,c,t,a2,m2,c2,?_,?_,?_,?_,by rw [hq,hq2];exact hx.keep h.kind hgrow⟩
    · rw [List.getElem?_append_right (by omega),hl,Nat.sub_self];rfl
    · rw [List.getElem?_append_right (by omega),hl,show j*4+1 - j*4=1 by omega];rfl
    · rw [List.getElem?_append_right (by omega),hl,show j*4+2 - j*4=2 by omega];rfl
    · rw [List.getElem?_append_right (by omega),hl,show j*4+3 - j*4=3 by omega];rfl
theorem QRow.alloc (h:QRow w base v r p d K xs) (o:Obj):QRow (w.alloc o) base v r p d K xs:=h.below ((Below.refl w.heap.size w).alloc (Nat.le_refl _) o)
theorem noInt_4 (s t:Bool) (a a2:Option Addr) (m c m2 c2:Nat):∀ u ∈ [Value.bool s,.slice a m c,.bool t,.slice a2 m2 c2],NoInt u:=fun u hu=>by
  simp at hu
  rcases hu with rfl | rfl | rfl | rfl <;> exact fun k z h=>by cases h
structure QSl (w:World) (v:Value) (n:Nat) (p d:Nat→Int) (K:Nat):Prop where
  val:∃ g cap,v = .slice (some ⟨g,0,none⟩) n cap∧n≤cap∧g<w.heap.size∧∀ j,j<n→∃ s a m c t a2 m2 c2,w.cell? ⟨g,j*4,none⟩=some (.bool s)∧w.cell? ⟨g,j*4+1,none⟩=some (.slice a m c)∧w.cell? ⟨g,j*4+2,none⟩=some (.bool t)∧w.cell? ⟨g,j*4+3,none⟩=some (.slice a2 m2 c2)∧QIs w (.agg #[.bool s,.slice a m c,.bool t,.slice a2 m2 c2]) (p j) (d j) K
theorem QRow.sl (h:QRow w base v r p d K xs) (h0:0<r):QSl w v r p d K:=by
  have h1:=h.own
  rcases h1.2 with ⟨_,e⟩ | ⟨g,cap,cur,hv,hbg,hg,hcap,hml,hsz,htk⟩
  · omega
  · subst hv
    have hlt:g<w.heap.size:=(Array.getElem?_eq_some_iff.1 hg).1
    have hc:=h1.cells (g:=g) rfl
    refine⟨g,cap,rfl,by omega,hlt,fun j hj=>?_⟩
    obtain⟨s',a',m',c',t',a2',m2',c2',k1,k2,k3,k4,k5⟩:=h.val j hj
    have k:∀ i u,xs[i]? = some u→w.cell? ⟨g,i,none⟩=some u:=fun i u hu=>by
      have:=hc i u hu
      rw [add_at,Nat.zero_add] at this;exact this
    exact⟨s',a',m',c',t',a2',m2',c2',k _ _ k1,k _ _ k2,k _ _ k3,k _ _ k4,k5⟩
end Go.Proofs.YtgmopcncbpdniaaGreat
namespace Go.Proofs.YtgmopcncbpdniaaGreat
open Go.RowKit
attribute [local go_sem ↓] Go.wp_at_zero Go.wp_at_succ
structure TxtQ (s:ByteArray) (q:Rat):Prop where
  txt:FracTxt s q.num q.den
  mn:MaxD q.num.natAbs
  md:MaxD q.den
theorem parse_q (s : ByteArray) (q : Rat) (w : World) (h : TxtQ s q) :
    Calls Tryz.prog 68 #[.string s] w fun e w'=>∃ s1 a n c t b l k,e = .returned (.tuple #[.agg #[.bool s1,.slice a n c,.bool t,.slice b l k],.bool true])∧Hid (QIs w' (.agg #[.bool s1,.slice a n c,.bool t,.slice b l k]) q.num ((q.den:Nat):Int) 1000)∧Hid (Below w.heap.size w w'):=by
  refine (parse_txt s q.num q.den w h.txt h.mn h.md q.den_pos q.reduced).mono ?_
  rintro e w' ⟨r,rfl,hr,hb⟩
  obtain⟨s1,a,n,c,t,b,l,k,rfl,-,-,-⟩:=hr.shape
  exact⟨s1,a,n,c,t,b,l,k,rfl,Lib.hid hr,Lib.hid hb⟩
set_option maxHeartbeats 1000000 in
theorem valid_any (s : ByteArray) (q : Rat) (w : World) (h : TxtQ s q) :
    Calls Tryz.prog 36 #[.string s] w fun e w'=>e = .returned (.bool true)∧Below w.heap.size w w':=by
  have H:=Lib.hid h
  clear h
  go_enter Tryz.func36,Tryz.ntmps36
  go_wp2_with (go_at_call 68;(with_reducible refine (parse_q s q _ H.out).mono ?_);rintro e w1 ⟨s1,a,n,c,t,b,l,k,rfl,HQ,KW⟩)
  go_ret
  exact⟨rfl,KW.out.alloc KW.out.size _⟩
theorem QIs.store4 {w : World} {v : Value} {p d : Int} {m b : Nat} (h : QIs w v p d m) (O : Own4 w b (.bool false) (.slice none 0 0) (.bool false) (.slice none 0 0)) (u0 u1 u2 u3 : Value) :
    QIs ((((w.setCell ⟨b,0,none⟩ u0).setCell ⟨b,1,none⟩ u1).setCell ⟨b,2,none⟩ u2).setCell ⟨b,3,none⟩ u3) v p d m:=by
  obtain⟨s1,u1,s2,u2,rfl,h1,h2,h3⟩:=h
  exact⟨s1,u1,s2,u2,rfl,h1.store4 O _ _ _ _,h2.store4 O _ _ _ _,h3⟩
theorem QIs.alloc {w:World} {v:Value} {p d:Int} {m:Nat} (h:QIs w v p d m) (o:Obj):QIs (w.alloc o) v p d m:=h.mono ((Below.refl w.heap.size w).alloc (Nat.le_refl _) o) (Nat.le_refl _)
set_option maxHeartbeats 1000000 in
theorem of_any (s : ByteArray) (q : Rat) (w : World) (h : TxtQ s q) :
    Calls Tryz.prog 64 #[.string s] w fun e w'=>∃ s1 a n c t b l k,e = .returned (.agg #[.bool s1,.slice a n c,.bool t,.slice b l k])∧Hid (QIs w' (.agg #[.bool s1,.slice a n c,.bool t,.slice b l k]) q.num ((q.den:Nat):Int) 1000)∧Hid (Below w.heap.size w w'):=by
  have H:=Lib.hid h
  clear h
  have O4:=Lib.hid (own4_new w w.heap.size rfl (.bool false) (.slice none 0 0) (.bool false) (.slice none 0 0) 40)
  have KW:=Lib.hid ((Below.refl w.heap.size w).alloc (Nat.le_refl _) (.cells #[.bool false,.slice none 0 0,.bool false,.slice none 0 0] 40))
  go_enter Tryz.func64,Tryz.ntmps64
  go_wp2_with (go_at_call 68;(with_reducible refine (parse_q s q _ H.out).mono ?_);rintro e w1 ⟨s1,a,n,c,t,b,l,k,rfl,HQ,hb⟩;have O4:=Lib.hid (O4.out.below hb.out O4.out.lt);have KW:=Lib.hid (KW.out.trans (hb.out.mono KW.out.size));have n1:w.heap.size<w1.heap.size:=(by have:=hb.out.size;simp at this;omega);obtain⟨x0,x1,x2,x3,xf,xl⟩:=O4.out)
  refine bodyPost_ret (v:=.agg #[.bool s1,.slice a n c,.bool t,.slice b l k]) (by simp [results,Tryz.results64,go_sem,x0,x1,x2,x3,xf,xl,n1]) rfl ?_
  exact⟨_,_,_,_,_,_,_,_,rfl,Lib.hid ((HQ.out.store4 O4.out _ _ _ _).alloc _),Lib.hid ((below_set4q KW.out (Nat.le_refl _) _ _ _ _).alloc (below_set4q KW.out (Nat.le_refl _) _ _ _ _).size _)⟩
def Strs (w:World) (v:Value) (n:Nat) (ss:Nat→ByteArray):Prop:=Sl w v n (fun j=>.string (ss j))
theorem num_s:Tryz.prog.underlying 28=some (.slice (Tryz.prog.elem 28)):=by kernel_rfl
theorem num_z (W:World):(sizeOf (Tryz.prog.elem 28)).run Tryz.prog W = .ok 1 W:=by kernel_rfl
theorem ixN {w:World} {a:Option Addr} {b o c n:Nat} {g:Nat→Value} (h:IsSl w a b o c n g) (i d:Nat) (hi:i<n) (W:World) :
   (Instr.indexAt 28 (.slice a n d) (.int .i64 (i:Int))).run Tryz.prog W = .ok (.pointer (some ⟨b,o+i,none⟩)) W:=
  run_indexAt_opt 28 num_s num_z a b o n d (fun q=>h.at_ q) .i64 i (by omega) (by omega) W
structure TxtQs (n:Nat) (q:Nat→Rat) (ss:Nat→ByteArray):Prop where
  txt:∀ j,j<n→TxtQ (ss j) (q j)
end Go.Proofs.YtgmopcncbpdniaaGreat
namespace Go.Proofs.YtgmopcncbpdniaaGreat
open Go.ChangeShapes Go.WideShapes Go.ChangeAt Go.RowKit Go.Deep
theorem cellsN:Tryz.prog.cellsOf 63=1:=by kernel_rfl
section
variable {H:Type} {enc:TypeId × Value→H}
set_option maxRecDepth 100000 in
theorem strs_of_trod {W : World} {base : Nat} {v : Value} {d : DataW H} {ps : List MemPlace} (hv : Value.okWide Tryz.prog W .any base 28 v) (h : DataW.Trod enc Tryz.prog W 0 (fun _ => true) true 28 v d ps) :
    ∃ n ss,Strs W v n ss∧n≤9223372036854775807∧∀ i,i<n→(ss i).size≤9223372036854775807:=by
  obtain⟨a0,len,cap,rfl⟩:=okWide_slice Tryz.underlying28 hv
  obtain⟨fuel,hf⟩:=h
  rcases open_strs Tryz.underlying28 Tryz.underlying63 cellsN hf with ⟨hcs,hx⟩ | ⟨a,len',cap',m,Sx,hcs,_,hl,hm,hz,hx,hcell⟩
  · simp [Value.cells] at hcs
    obtain⟨rfl,rfl,rfl⟩:=hcs
    exact⟨0,fun _=>ByteArray.empty,⟨_,_,_,_,rfl,sl_none W _⟩,Nat.zero_le _,fun i hi=>absurd hi (Nat.not_lt_zero i)⟩
  · simp [Value.cells] at hcs
    obtain⟨rfl,rfl,rfl⟩:=hcs
    simp only [if_true] at hz
    unfold maxLen at hm hcell
    obtain⟨b,o,hs⟩:=sl_of_cells (w:=W) (a:=a) (g:=fun i=>.string (Sx i)) hl (fun i hi=>(hcell i (by omega)).1)
    exact⟨len,Sx,⟨_,_,_,_,rfl,hs⟩,by omega,fun i hi=>(hcell i (by omega)).2⟩
end
end Go.Proofs.YtgmopcncbpdniaaGreat
namespace Go.Proofs.YtgmopcncbpdniaaGreat
open Go.RowKit
structure BRow (w:World) (base:Nat) (v:Value) (r:Nat) (q:Nat→Rat) (K:Nat) (xs:List Value):Prop where
  kind:KindB w v
  own:w.ownsRow base 92 4 v r xs
  val:∀ j,j<r→∃ s a m c a2 m2 c2,xs[j*4]? = some (.bool s)∧xs[j*4+1]? = some (.slice a m c)∧xs[j*4+2]? = some (.bool false)∧xs[j*4+3]? = some (.slice a2 m2 c2)∧RatIs w (.agg #[.bool s,.slice a m c,.bool false,.slice a2 m2 c2]) (q j) K
variable {w w':World} {base r K:Nat} {v:Value} {q:Nat→Rat} {xs:List Value}
theorem BRow.nil (w:World) (base:Nat) (q:Nat→Rat) (K:Nat):BRow w base (.slice none 0 0) 0 q K []:=⟨kind_nil _ _ _,World.ownsRow_nil _ _ _ _,fun j hj=>by omega⟩
theorem BRow.below (h:BRow w base v r q K xs) (hb:Below w.heap.size w w'):BRow w' base v r q K xs:=
  ⟨h.kind.below hb (fun g hg=>(h.own.lt g hg).2),own_kept h.own hb,fun j hj=>by
    obtain⟨s,a,m,c,a2,m2,c2,h1,h2,h3,h4,h5⟩:=h.val j hj
    exact⟨s,a,m,c,a2,m2,c2,h1,h2,h3,h4,h5.mono hb (Nat.le_refl _)⟩⟩
theorem BRow.st4 {b o:Nat} {s' t':Bool} {a' a2':Option Addr} {m' c' m2' c2':Nat} (h:BRow w base v r q K xs) (u0 u1 u2 u3:Value) (hr:Rd4 w b o (.bool s') (.slice a' m' c') (.bool t') (.slice a2' m2' c2')) (hne:v.ownBlock≠some b):BRow (st4 w b o u0 u1 u2 u3) base v r q K xs:=
  ⟨kind_st4 h.kind b o hne _ _ _ _,own_st4 h.own b o hne _ _ _ _,fun j hj=>by
    obtain⟨s,a,m,c,a2,m2,c2,h1,h2,h3,h4,h5⟩:=h.val j hj
    exact⟨s,a,m,c,a2,m2,c2,h1,h2,h3,h4,h5.at4 _ _ _ _ hr⟩⟩
theorem BRow.push {v' : Value} {x : Rat} {s : Bool} {a a2 : Option Addr} {m c m2 c2 : Nat} (h : BRow w base v r q K xs) (hx : RatIs w (.agg #[.bool s, .slice a m c, .bool false, .slice a2 m2 c2]) x K) (hq : q r = x)
    (hgrow:w.grownBy w' v.ownBlock) (hown:w'.ownsRow base 92 4 v' (r+1) (xs ++ [.bool s,.slice a m c,.bool false,.slice a2 m2 c2])) (hkind:KindB w' v'):BRow w' base v' (r+1) q K (xs ++ [.bool s,.slice a m c,.bool false,.slice a2 m2 c2]):=by
  have hl:=h.own.1
  refine⟨hkind,hown,fun j hj=>?_⟩
  by_cases e:j<r
  · obtain⟨s',a',m',c',a2',m2',c2',h1,h2,h3,h4,h5⟩:=h.val j e
    exact⟨s',a',m',c',a2',m2',c2',by rw [List.getElem?_append_left (by omega)];exact h1,by rw [List.getElem?_append_left (by omega)];exact h2,by rw [List.getElem?_append_left (by omega)];exact h3,by rw [List.getElem?_append_left (by omega)];exact h4,rat_keep h5 h.kind hgrow⟩
  · obtain rfl:j=r:=by omega
    refine⟨s,a,m,c,a2,m2,c2,?_,?_,?_,?_,by rw [hq];exact rat_keep hx h.kind hgrow⟩
    · rw [List.getElem?_append_right (by omega),hl,Nat.sub_self];rfl
    · rw [List.getElem?_append_right (by omega),hl,show j*4+1 - j*4=1 by omega];rfl
    · rw [List.getElem?_append_right (by omega),hl,show j*4+2 - j*4=2 by omega];rfl
    · rw [List.getElem?_append_right (by omega),hl,show j*4+3 - j*4=3 by omega];rfl
theorem BRow.row (h:BRow w base v r q K xs) (h0:0<r):∃ g cap,v = .slice (some ⟨g,0,none⟩) r cap∧base≤g∧RatRow w g r q K:=by
  have h1:=h.own
  rcases h1.2 with ⟨_,e⟩ | ⟨g,cap,cur,hv,hbg,hg,hcap,hml,hsz,htk⟩
  · omega
  · subst hv
    have hlt:g<w.heap.size:=(Array.getElem?_eq_some_iff.1 hg).1
    have hc:=h1.cells (g:=g) rfl
    refine⟨g,cap,rfl,hbg,⟨fun j hj=>?_,fun o=>by simp [World.frozen?,hg],hlt⟩⟩
    obtain⟨s',a',m',c',a2',m2',c2',k1,k2,k3,k4,k5⟩:=h.val j hj
    have k:∀ i u,xs[i]? = some u→w.cell? ⟨g,i,none⟩=some u:=fun i u hu=>by
      have:=hc i u hu
      rw [add_at,Nat.zero_add] at this;exact this
    exact⟨s',a',m',c',a2',m2',c2',⟨k _ _ k1,k _ _ k2,k _ _ k3,k _ _ k4,hlt⟩,fun _=>k5⟩
theorem BRow.alloc (h:BRow w base v r q K xs) (o:Obj):BRow (w.alloc o) base v r q K xs:=h.below ((Below.refl w.heap.size w).alloc (Nat.le_refl _) o)
theorem noLimb_4 (s t:Bool) (a a2:Option Addr) (m c m2 c2:Nat):∀ u ∈ [Value.bool s,.slice a m c,.bool t,.slice a2 m2 c2],NoLimb u:=fun u hu=>by
  simp at hu
  rcases hu with rfl | rfl | rfl | rfl <;> exact fun z h=>by cases h
end Go.Proofs.YtgmopcncbpdniaaGreat
