import Derived.Test.YtolkchkedieppaaGreatZSlv
import Derived.Maps.AppendAt
import Derived.Test.YtolkchkedieppaaGreatZGen
import Derived.Deep.DeepCutAuto
import Derived.Deep.CutBlock
import Derived.Deep.DrawnRows
import Derived.Deep.QuietTactic
import Derived.BigQuiet
import Derived.Test.YtolkchkedieppaaGreatZRMat
import Derived.Test.YtolkchkedieppaaGreatZNum3
import Derived.Deep.OwnRows
import Derived.RegionTactic
import Derived.ChangeAlike
import Derived.Test.YtolkchkedieppaaGreatZTakes
set_option linter.unusedVariables false
set_option linter.unusedSimpArgs false
namespace Go.Proofs.YtolkchkedieppaaGreat
open Go.RowKit
def NoLimb (v:Value):Prop:=∀ z,v≠.int .u32 z
def KindB (w:World) (v:Value):Prop:=∀ g,v.ownBlock=some g→∀ o x,w.cell? ⟨g,o,none⟩=some x→NoLimb x
theorem kind_nil (w:World) (n c:Nat):KindB w (.slice none n c):=fun g h=>by cases h
theorem KindB.below {w w':World} {v:Value} {B:Nat} (h:KindB w v) (hb:Below B w w') (hl:∀ g,v.ownBlock=some g→g<B):KindB w' v:=fun g hg o x hx=>by
  rw [hb.cell (p:=⟨g,o,none⟩) (hl g hg)] at hx
  exact h g hg o x hx
theorem mag_keep {w w':World} {u v:Value} {x:Nat} (h:Mag w u x) (hk:KindB w v) (hg:w.grownBy w' v.ownBlock):Mag w' u x:=by
  obtain⟨a,b,o,c,rfl,hs⟩:=h
  refine⟨a,b,o,c,rfl,⟨hs.cap,hs.at_,fun q=>Nat.lt_of_lt_of_le (hs.lt q) hg.size,fun i hi=>?_,hs.nc⟩⟩
  have hb:=hs.lt (by omega)
  have hc:=hs.cell i hi
  rw [←hc]
  unfold World.cell?
  rw [hg.block b hb (fun e=>hk b e.symm _ _ hc _ rfl)]
theorem rat_keep {w w':World} {u v:Value} {q:Rat} {m:Nat} (h:RatIs w u q m) (hk:KindB w v) (hg:w.grownBy w' v.ownBlock):RatIs w' u q m:=by
  obtain⟨a,d,rfl,h1,h2,h3⟩:=h
  exact⟨a,d,rfl,mag_keep h1 hk hg,mag_keep h2 hk hg,h3⟩
theorem rd4_keep {w w':World} {row:Option Nat} {b o:Nat} {x y z u:Value} (h:Rd4 w b o x y z u) (hg:w.grownBy w' row) (hne:some b≠row):Rd4 w' b o x y z u:=by
  have k:∀ j,w'.cell? ⟨b,j,none⟩=w.cell? ⟨b,j,none⟩:=fun j=>World.cell?_of_block (hg.block b h.lt hne)
  exact⟨(k _).trans h.c0,(k _).trans h.c1,(k _).trans h.c2,(k _).trans h.c3,Nat.lt_of_lt_of_le h.lt hg.size⟩
theorem RowP.keep' {w w':World} {v:Value} {g n K:Nat} {P:Nat→Prop} {q:Nat→Rat} (h:RowP w g n P q K) (hk:KindB w v) (hg:w.grownBy w' v.ownBlock) (hne:some g≠v.ownBlock):RowP w' g n P q K:=
  ⟨fun j hj=>by
    obtain⟨s,a,m,c,a2,m2,c2,h1,h2⟩:=h.cell j hj
    exact⟨s,a,m,c,a2,m2,c2,rd4_keep h1 hg hne,fun p=>rat_keep (h2 p) hk hg⟩,
   fun o=>(World.frozen?_of_block (hg.block g h.lt hne)).trans (h.f o),Nat.lt_of_lt_of_le h.lt hg.size⟩
theorem own_st4 {w:World} {base e s n:Nat} {v:Value} {xs:List Value} (h:w.ownsRow base e s v n xs) (b o:Nat) (hne:v.ownBlock≠some b) (u0 u1 u2 u3:Value):(st4 w b o u0 u1 u2 u3).ownsRow base e s v n xs:=
  h.kept (row:=some b) ⟨rfl,rfl,rfl,by rw [size_st4];exact Nat.le_refl _,fun k hk hkb=>by
    have:k≠b:=fun e=>hkb (by rw [e])
    simp only [st4]
    rw [Below.heap_setCell _ _ _ _ this,Below.heap_setCell _ _ _ _ this,Below.heap_setCell _ _ _ _ this,Below.heap_setCell _ _ _ _ this]⟩ (.inr hne)
theorem kind_st4 {w:World} {v:Value} (h:KindB w v) (b o:Nat) (hne:v.ownBlock≠some b) (u0 u1 u2 u3:Value):KindB (st4 w b o u0 u1 u2 u3) v:=fun g hg o' x hx=>by
  have:b≠g:=fun e=>hne (by rw [hg,e])
  rw [far4 _ _ _ _ this] at hx
  exact h g hg o' x hx
theorem cell_of {w:World} {g o:Nat} {cur:Array Value} {t:TypeId} {fr:Nat × Nat} (hg:w.heap[g]? = some (.cells cur t fr)):w.cell? ⟨g,o,none⟩=cur[o]?:=by
  simp [World.cell?,hg]
theorem noLimb_zero {z:Array Value} {n:Nat} (hz:∀ u ∈ z.toList,NoLimb u) (h0:0<z.size):∀ u ∈ (Builtin.zeroCells z n).toList,NoLimb u:=fun u hu=>by
  unfold Builtin.zeroCells at hu
  simp at hu
  obtain⟨a,ha,rfl⟩:=hu
  have hlt:a % z.size<z.size:=Nat.mod_lt _ h0
  rw [getElem!_pos z (a % z.size) hlt]
  exact hz _ (by simp)
section
variable {P:Program} {w:World}
theorem run_append_kind (base : Nat) (t ty e : TypeId) (i : TypeInfo) (z : Value) (size bytes : Nat) (ht : P.underlying t = some (.slice e)) (hi : P.info? e = some i) (hz : i.zero = some z)
    (hsize:i.size=size) (hby:i.bytes=bytes) (hzs:z.cells.size=size) (hsz:0<size)
    (v:Value) (n:Nat) (xs:List Value) (hown:w.ownsRow base e size v n xs) (hkind:KindB w v) (hzk:∀ u ∈ z.cells.toList,NoLimb u)
    (a:Addr) (m c:Nat) (news:List Value) (hl:news.length=m*size) (hnews:∀ j u,news[j]? = some u→w.cell? (a.add j)=some u) (h1:∀ u ∈ news,u.oneCell'=true) (hnk:∀ u ∈ news,NoLimb u)
    (h63:n+m≤maxLen) (hbytes:(n+m)*bytes≤140737488355328) (hbase:base≤w.heap.size) (hm:0<m) :
    ∃ v' w',(Builtin.append_ #[t,t] ty #[v,.slice (some a) m c]).run P w = .ok v' w'∧w'.ownsRow base e size v' (n+m) (xs ++ news)∧w.grownBy w' v.ownBlock∧
      (v'.ownBlock=v.ownBlock∨v'.ownBlock=some w.heap.size)∧KindB w' v':=by
  obtain⟨v',w',hr,h2,h3,_,h5⟩:=run_append_own_at (P:=P) w base t ty e i z size bytes ht hi hz hsize hby hzs hsz v n xs hown a m c news hl hnews h1 h63 hbytes hbase
  refine⟨v',w',hr,h2,h3,h5,?_⟩
  subst hsize
  subst hby
  have hsmall:n+m≤9223372036854775807:=by simp only [maxLen] at h63;omega
  have hnew:∀ (l:List Value) (cap:Nat),(∀ u ∈ l,NoLimb u)→KindB (w.drew.alloc (.cells (l.toArray ++ Builtin.zeroCells z.cells cap) e)) (.slice (some ⟨w.heap.size,0,none⟩) (n+m) (cap+(n+m))):=fun l cap hlk g hg o x hx=>by
    have:w.heap.size=g:=Option.some.inj hg
    subst this
    have hcell:(w.drew.alloc (.cells (l.toArray ++ Builtin.zeroCells z.cells cap) e)).cell? ⟨w.heap.size,o,none⟩=(l.toArray ++ Builtin.zeroCells z.cells cap)[o]?:=cell_of (t:=e) (fr:=(0,0)) (heap_alloc_new w.drew _)
    rw [hcell] at hx
    have hmem:x ∈ (l.toArray ++ Builtin.zeroCells z.cells cap).toList:=by
      rw [←Array.getElem?_toList] at hx
      exact List.mem_of_getElem? hx
    rw [Array.toList_append] at hmem
    rcases List.mem_append.1 hmem with h | h
    · exact hlk x (by simpa using h)
    · exact noLimb_zero hzk (by omega) x h
  have hxk:∀ u ∈ xs,NoLimb u:=fun u hu=>by
    obtain⟨j,hj,rfl⟩:=List.mem_iff_getElem.1 hu
    rcases hob:v.ownBlock with _ | g
    · rcases hown.2 with ⟨rfl,rfl⟩ | ⟨g,cap,cur,rfl,_⟩
      · have:=hown.1;omega
      · cases hob
    · have hc:=hown.cells hob j xs[j] (by simp)
      rw [add_at,Nat.zero_add] at hc
      exact hkind g hob j _ hc
  rcases hown.2 with ⟨rfl,rfl⟩ | ⟨g,cap,cur,rfl,hbg,hg,hnc,hcm,hcs,htake⟩
  · have hr2:=run_append_nil (P:=P) w t ty e i z ht hi hz a m c news hl hnews hm (by omega) (by have hb:=hbytes;simp only [Nat.zero_add] at hb;omega)
    rw [hr2] at hr
    injection hr with e1 e2
    subst e1;subst e2
    have h:=hnew news (grownCap w m 0 e - m) hnk
    intro g hg o x hx
    exact h g hg o x hx
  · by_cases hroom:n+m≤cap
    · have hfit:n*i.size+news.length≤cur.size:=by rw [hl,hcs,←Nat.add_mul];exact Nat.mul_le_mul_right _ hroom
      have hr2:=run_append_room (P:=P) w t ty e i ht hi g n cap cur hg a m c news hl hnews h1 hroom hfit
      rw [hr2] at hr
      injection hr with e1 e2
      subst e1;subst e2
      intro g' hg' o x hx
      have:g=g':=Option.some.inj hg'
      subst this
      rw [cell_of (setRow_heap w g cur _ e _ hg)] at hx
      have hmem:x ∈ (cur.toList.take (n*i.size) ++ news ++ cur.toList.drop (n*i.size+news.length)):=by
        rw [List.getElem?_toArray] at hx
        exact List.mem_of_getElem? hx
      have hcur:∀ u ∈ cur.toList,NoLimb u:=fun u hu=>by
        obtain⟨j,hj,rfl⟩:=List.mem_iff_getElem.1 hu
        refine hkind g rfl j _ ?_
        rw [cell_of hg]
        simp
      rcases List.mem_append.1 hmem with h | h
      · rcases List.mem_append.1 h with h | h
        · exact hcur x (List.mem_of_mem_take h)
        · exact hnk x h
      · exact hcur x (List.mem_of_mem_drop h)
    · have holds:∀ j u,xs[j]? = some u→w.cell? ((⟨g,0,none⟩:Addr).add j)=some u:=hown.cells (g:=g) rfl
      have hr2:=run_append_grow (P:=P) w t ty e i z ht hi hz ⟨g,0,none⟩ n cap xs hown.1 holds a m c news hl hnews (by omega) (by omega) (growslice_fits (by omega) hbytes)
      rw [hr2] at hr
      injection hr with e1 e2
      subst e1;subst e2
      have h:=hnew (xs ++ news) (grownCap w (n+m) cap e - (n+m)) (fun u hu=>(List.mem_append.1 hu).elim (hxk u) (hnk u))
      intro g' hg' o x hx
      refine h g' hg' o x ?_
      simpa using hx
theorem wpList_append_kind {ops : Array Oper} {rest : List Oper} {o : Oper} {a : Act} {Q : Exit → Act → World → Prop} (hgd : o.guard = none) (s x : Operand) (t : TypeId)
    (ho:o.op = .call { callee:=.builtin .append,args:=#[s,x],argTypes:=#[t,t] })
    (base:Nat) (e:TypeId) (i:TypeInfo) (z:Value) (size bytes:Nat) (ht:P.underlying t=some (.slice e)) (hi:P.info? e=some i) (hz:i.zero=some z)
    (hsize:i.size=size) (hby:i.bytes=bytes) (hzs:z.cells.size=size) (hsz:0<size)
    (v:Value) (n:Nat) (xs:List Value) (hs:a.eval s=v) (hown:w.ownsRow base e size v n xs) (hkind:KindB w v) (hzk:∀ u ∈ z.cells.toList,NoLimb u)
    (ad:Addr) (m c:Nat) (news:List Value) (hx:a.eval x = .slice (some ad) m c) (hl:news.length=m*size) (hnews:∀ j u,news[j]? = some u→w.cell? (ad.add j)=some u) (h1:∀ u ∈ news,u.oneCell'=true) (hnk:∀ u ∈ news,NoLimb u)
    (h63:n+m≤maxLen) (hbytes:(n+m)*bytes≤140737488355328) (hbase:base≤w.heap.size) (hm:0<m)
    (h:∀ v' w',w'.ownsRow base e size v' (n+m) (xs ++ news)→w.grownBy w' v.ownBlock→(v'.ownBlock=v.ownBlock∨v'.ownBlock=some w.heap.size)→KindB w' v'→wpList P ops Q rest (a.put o.dst v') w'):wpList P ops Q (o :: rest) a w:=by
  refine wpList_plain hgd fun K hK=>?_
  obtain⟨v',w',hr,h2,h3,h5,h6⟩:=run_append_kind (P:=P) base t o.type e i z size bytes ht hi hz hsize hby hzs hsz v n xs hown hkind hzk ad m c news hl hnews h1 hnk h63 hbytes hbase hm
  unfold Oper.wp execOp
  simp only [ho,resolve,invoke,builtin,Sem.run_bind,Sem.run_pure,Result.andThen_ok,List.map_toArray,List.map_cons,List.map_nil,hs,hx,hr]
  exact hK _ _ (h v' w' h2 h3 h5 h6)
end
end Go.Proofs.YtolkchkedieppaaGreat
namespace Go.Proofs.YtolkchkedieppaaGreat
open Go.RowKit
structure BRow (w:World) (base:Nat) (v:Value) (r:Nat) (q:Nat→Rat) (K:Nat) (xs:List Value):Prop where
  kind:KindB w v
  own:w.ownsRow base 115 4 v r xs
  val:∀ j,j<r→∃ s a m c a2 m2 c2,xs[j*4]? = some (.bool s)∧xs[j*4+1]? = some (.slice a m c)∧xs[j*4+2]? = some (.bool false)∧xs[j*4+3]? = some (.slice a2 m2 c2)∧RatIs w (.agg #[.bool s,.slice a m c,.bool false,.slice a2 m2 c2]) (q j) K
variable {w w':World} {base r K:Nat} {v:Value} {q:Nat→Rat} {xs:List Value}
theorem BRow.nil (w:World) (base:Nat) (q:Nat→Rat) (K:Nat):BRow w base (.slice none 0 0) 0 q K []:=⟨kind_nil _ _ _,World.ownsRow_nil _ _ _ _,fun j hj=>by omega⟩
theorem BRow.below (h:BRow w base v r q K xs) (hb:Below w.heap.size w w'):BRow w' base v r q K xs:=
  ⟨h.kind.below hb (fun g hg=>(h.own.lt g hg).2),own_kept h.own hb,fun j hj=>by
    obtain⟨s,a,m,c,a2,m2,c2,h1,h2,h3,h4,h5⟩:=h.val j hj
    exact⟨s,a,m,c,a2,m2,c2,h1,h2,h3,h4,h5.mono hb (Nat.le_refl _)⟩⟩
theorem BRow.st4 {b o:Nat} {s' t':Bool} {a' a2':Option Addr} {m' c' m2' c2':Nat} (h:BRow w base v r q K xs) (u0 u1 u2 u3:Value) (hr:Rd4 w b o (.bool s') (.slice a' m' c') (.bool t') (.slice a2' m2' c2')) (hne:v.ownBlock≠some b):BRow (st4 w b o u0 u1 u2 u3) base v r q K xs:=
  ⟨kind_st4 h.kind b o hne _ _ _ _,own_st4 h.own b o hne _ _ _ _,fun j hj=>by
    obtain⟨s,a,m,c,a2,m2,c2,h1,h2,h3,h4,h5⟩:=h.val j hj
    exact⟨s,a,m,c,a2,m2,c2,h1,h2,h3,h4,h5.at4 _ _ _ _ hr⟩⟩
theorem BRow.push {v' : Value} {x : Rat} {s : Bool} {a a2 : Option Addr} {m c m2 c2 : Nat} (h : BRow w base v r q K xs) (hx : RatIs w (.agg #[.bool s, .slice a m c, .bool false, .slice a2 m2 c2]) x K) (hq : q r = x)
    (hgrow:w.grownBy w' v.ownBlock) (hown:w'.ownsRow base 115 4 v' (r+1) (xs ++ [.bool s,.slice a m c,.bool false,.slice a2 m2 c2])) (hkind:KindB w' v'):BRow w' base v' (r+1) q K (xs ++ [.bool s,.slice a m c,.bool false,.slice a2 m2 c2]):=by
  have hl:=h.own.1
  refine⟨hkind,hown,fun j hj=>?_⟩
  by_cases e:j<r
  · obtain⟨s',a',m',c',a2',m2',c2',h1,h2,h3,h4,h5⟩:=h.val j e
    exact⟨s',a',m',c',a2',m2',c2',by rw [List.getElem?_append_left (by omega)];exact h1,by rw [List.getElem?_append_left (by omega)];exact h2,by rw [List.getElem?_append_left (by omega)];exact h3,by rw [List.getElem?_append_left (by omega)];exact h4,rat_keep h5 h.kind hgrow⟩
  · obtain rfl:j=r:=by omega
    refine⟨s,a,m,c,a2,m2,c2,?_,?_,?_,?_,by rw [hq];exact rat_keep hx h.kind hgrow⟩
    · rw [List.getElem?_append_right (by omega),hl,Nat.sub_self];rfl
    · rw [List.getElem?_append_right (by omega),hl,show j*4+1 - j*4=1 by omega];rfl
    · rw [List.getElem?_append_right (by omega),hl,show j*4+2 - j*4=2 by omega];rfl
    · rw [List.getElem?_append_right (by omega),hl,show j*4+3 - j*4=3 by omega];rfl
theorem BRow.row (h:BRow w base v r q K xs) (h0:0<r):∃ g cap,v = .slice (some ⟨g,0,none⟩) r cap∧base≤g∧RatRow w g r q K:=by
  have h1:=h.own
  rcases h1.2 with ⟨_,e⟩ | ⟨g,cap,cur,hv,hbg,hg,hcap,hml,hsz,htk⟩
  · omega
  · subst hv
    have hlt:g<w.heap.size:=(Array.getElem?_eq_some_iff.1 hg).1
    have hc:=h1.cells (g:=g) rfl
    refine⟨g,cap,rfl,hbg,⟨fun j hj=>?_,fun o=>by simp [World.frozen?,hg],hlt⟩⟩
    obtain⟨s',a',m',c',a2',m2',c2',k1,k2,k3,k4,k5⟩:=h.val j hj
    have k:∀ i u,xs[i]? = some u→w.cell? ⟨g,i,none⟩=some u:=fun i u hu=>by
      have:=hc i u hu
      rw [add_at,Nat.zero_add] at this;exact this
    exact⟨s',a',m',c',a2',m2',c2',⟨k _ _ k1,k _ _ k2,k _ _ k3,k _ _ k4,hlt⟩,fun _=>k5⟩
theorem noLimb_4 (s t:Bool) (a a2:Option Addr) (m c m2 c2:Nat):∀ u ∈ [Value.bool s,.slice a m c,.bool t,.slice a2 m2 c2],NoLimb u:=fun u hu=>by
  simp at hu
  rcases hu with rfl | rfl | rfl | rfl <;> exact fun z h=>by cases h
end Go.Proofs.YtolkchkedieppaaGreat
namespace Go.Proofs.YtolkchkedieppaaGreat
open Go.RowKit
attribute [local go_sem ↓] Go.wp_at_zero Go.wp_at_succ
def wA (W:List (Int × Int)) (k:Nat):Nat:=(W.getD k (0,0)).1.toNat
def wB (W:List (Int × Int)) (k:Nat):Nat:=(W.getD k (0,0)).2.toNat
def WiresOK (n:Nat) (W:List (Int × Int)):Prop:=∀ k,k<W.length→0≤(W.getD k (0,0)).1∧(W.getD k (0,0)).1<n∧0≤(W.getD k (0,0)).2∧(W.getD k (0,0)).2<n
theorem WiresOK.a {n:Nat} {W:List (Int × Int)} (h:WiresOK n W) {k:Nat} (hk:k<W.length):(W.getD k (0,0)).1=((wA W k:Nat):Int)∧wA W k<n:=by
  have:=h k hk;unfold wA;omega
theorem WiresOK.b {n:Nat} {W:List (Int × Int)} (h:WiresOK n W) {k:Nat} (hk:k<W.length):(W.getD k (0,0)).2=((wB W k:Nat):Int)∧wB W k<n:=by
  have:=h k hk;unfold wB;omega
inductive Rea (W:List (Int × Int)):Nat→Prop
  | zero:Rea W 0
  | fw (k:Nat) (hk:k<W.length) (h:Rea W (wA W k)):Rea W (wB W k)
  | bw (k:Nat) (hk:k<W.length) (h:Rea W (wB W k)):Rea W (wA W k)
def ConOK (n:Nat) (W:List (Int × Int)):Prop:=∀ i,i<n→Rea W i
theorem rea_closed {W:List (Int × Int)} {f:Nat→Bool} (h0:f 0=true) (hc:∀ k,k<W.length→f (wA W k)=f (wB W k)) {i:Nat} (h:Rea W i):f i=true:=by
  induction h with
  | zero=>exact h0
  | fw k hk _ ih=>rw [←hc k hk];exact ih
  | bw k hk _ ih=>rw [hc k hk];exact ih
def cntC (f:Nat→Bool):Nat→Nat
  | 0=>0
  | n+1=>cntC f n+(if f n=true then 1 else 0)
def setB (f:Nat→Bool) (i:Nat):Nat→Bool:=fun j=>if j=i then true else f j
theorem cntC_le (f:Nat→Bool):∀ n,cntC f n≤n
  | 0=>Nat.le_refl _
  | n+1=>by have:=cntC_le f n;simp only [cntC];split <;> omega
theorem cntC_off (f:Nat→Bool) (i:Nat):∀ n,n≤i→cntC (setB f i) n=cntC f n
  | 0,_=>rfl
  | n+1,h=>by simp only [cntC,setB,if_neg (show ¬ n=i by omega)];rw [←cntC_off f i n (by omega)]
theorem cntC_set (f:Nat→Bool) (i:Nat) (hf:f i=false):∀ n,i<n→cntC (setB f i) n=cntC f n+1
  | 0,h=>by omega
  | n+1,h=>by
    by_cases e:n=i
    · subst e
      have:=cntC_off f n n (Nat.le_refl _)
      simp only [cntC,this]
      rw [if_pos (by simp [setB]),if_neg (by rw [hf];simp)]
    · have ih:=cntC_set f i hf n (by omega)
      simp only [cntC,ih]
      simp only [setB,if_neg e]
      omega
theorem setB_same {f:Nat→Bool} {i:Nat} (h:f i=true):setB f i=f:=by
  funext j;unfold setB;split
  · rename_i e;rw [e,h]
  · rfl
def bls (f:Nat→Bool) (n:Nat):List Value:=(List.range n).map (fun i=>.bool (f i))
theorem bls_len (f:Nat→Bool) (n:Nat):(bls f n).length=n:=by simp [bls]
theorem bls_get (f:Nat→Bool) (n i:Nat) (h:i<n):(bls f n)[i]? = some (.bool (f i)):=by simp [bls,h]
theorem bls_set (f:Nat→Bool) (n i:Nat):(bls f n).set i (.bool true)=bls (setB f i) n:=by
  apply List.ext_getElem?
  intro j
  by_cases h:j<n
  · rw [bls_get _ _ _ h,List.getElem?_set]
    by_cases e:i=j
    · subst e;rw [if_pos rfl,if_pos (by rw [bls_len];exact h)];simp [setB]
    · rw [if_neg e,bls_get _ _ _ h];simp [setB,show ¬ j=i from fun q=>e q.symm]
  · rw [List.getElem?_eq_none_iff.2 (by rw [List.length_set,bls_len];omega),List.getElem?_eq_none_iff.2 (by rw [bls_len];omega)]
theorem infoBc:(Tryz.prog.info? 4).map (fun i=>(i.zero,i.size,i.bytes))=some (some (.bool false),1,1):=by kernel_rfl
theorem mkBls (n:Nat) (hn:n≤1000) (W:World):(Instr.makeSlice 182 (.int .i64 (n:Nat)) (.int .i64 (n:Nat))).run Tryz.prog W = .ok (.slice (some ⟨W.heap.size,0,none⟩) n n) (W.alloc (.cells (madeCells #[.bool false] n) 4)):=
  run_make_row' (P:=Tryz.prog) 182 4 (.bool false) 1 Tryz.underlying182 infoBc rfl .i64 .i64 n (by omega) (by omega) W
theorem bls_s:Tryz.prog.underlying 182=some (.slice (Tryz.prog.elem 182)):=by kernel_rfl
theorem bls_z (W:World):(sizeOf (Tryz.prog.elem 182)).run Tryz.prog W = .ok 1 W:=by kernel_rfl
theorem ixBc (b n c i : Nat) (hi : i < n) (W : World) :
    (Instr.indexAt 182 (.slice (some ⟨b,0,none⟩) n c) (.int .i64 (i:Int))).run Tryz.prog W = .ok (.pointer (some ⟨b,i,none⟩)) W:=by
  have:=run_indexAt_opt 182 bls_s bls_z (some ⟨b,0,none⟩) b 0 n c (fun _=>rfl) .i64 i (by omega) (by omega) W
  simpa using this
theorem madeB_bls (n:Nat):(madeCells #[.bool false] n).toList=bls (fun _=>false) n:=by
  apply List.ext_getElem?
  intro j
  by_cases h:j<n
  · rw [bls_get _ _ _ h];simp [madeCells,h,Nat.mod_one]
  · rw [List.getElem?_eq_none_iff.2 (by simp [madeCells];omega),List.getElem?_eq_none_iff.2 (by rw [bls_len];omega)]
end Go.Proofs.YtolkchkedieppaaGreat
namespace Go.Proofs.YtolkchkedieppaaGreat
open Go.RowKit
def addI (M:Nat→Nat→Int) (i j:Nat) (x:Int):Nat→Nat→Int:=fun r c=>if r=i∧c=j then M r c+x else M r c
def hStep (n:Nat) (M:Nat→Nat→Int) (p q:Nat):Nat→Nat→Int:=
  if p=n - 1 then M else if q<n - 1 then addI (addI M p p 1) p q (-1) else addI M p p 1
def hMat (n:Nat) (W:List (Int × Int)):Nat→Nat→Nat→Int
  | 0=>fun _ _=>0
  | k+1=>hStep n (hStep n (hMat n W k) (wA W k) (wB W k)) (wB W k) (wA W k)
def hIn (n:Nat) (W:List (Int × Int)) (k s:Nat):Nat→Nat→Int:=
  if s=0 then hMat n W k else if s=1 then hStep n (hMat n W k) (wA W k) (wB W k) else hMat n W (k+1)
def BdI (M:Nat→Nat→Int) (b:Nat):Prop:=∀ i j,(M i j).natAbs≤b
theorem BdI.add {M:Nat→Nat→Int} {b:Nat} (h:BdI M b) (i j:Nat) (x:Int) (hx:x.natAbs≤1):BdI (addI M i j x) (b+1):=fun r c=>by
  have:=h r c
  unfold addI;split <;> omega
theorem BdI.le {M:Nat→Nat→Int} {b c:Nat} (h:BdI M b) (hc:b≤c):BdI M c:=fun r q=>Nat.le_trans (h r q) hc
theorem BdI.step {M:Nat→Nat→Int} {b:Nat} (h:BdI M b) (n p q:Nat):BdI (hStep n M p q) (b+2):=by
  unfold hStep;split
  · exact h.le (by omega)
  · split
    · exact (h.add p p 1 (by decide)).add p q (-1) (by decide)
    · exact (h.add p p 1 (by decide)).le (by omega)
theorem hMat_bd (n:Nat) (W:List (Int × Int)):∀ k,BdI (hMat n W k) (4*k)
  | 0=>fun _ _=>by simp [hMat]
  | k+1=>by
    have:=((hMat_bd n W k).step n (wA W k) (wB W k)).step n (wB W k) (wA W k)
    exact this.le (by omega)
theorem hIn_bd (n:Nat) (W:List (Int × Int)) (k s:Nat):BdI (hIn n W k s) (4*k+4):=by
  unfold hIn;split
  · exact (hMat_bd n W k).le (by omega)
  · split
    · exact ((hMat_bd n W k).step n _ _).le (by omega)
    · exact (hMat_bd n W (k+1)).le (by omega)
theorem hIn_step (n:Nat) (W:List (Int × Int)) (k s:Nat) (hs:s<2) (p q:Nat) (hp:p=if s=0 then wA W k else wB W k) (hq:q=if s=0 then wB W k else wA W k):hIn n W k (s+1)=hStep n (hIn n W k s) p q:=by
  subst hp hq
  rcases (show s=0∨s=1 by omega) with rfl | rfl
  · rfl
  · rfl
def castM (M:Nat→Nat→Int):Nat→Nat→Rat:=fun i j=>((M i j:Int):Rat)
theorem castM_add (M:Nat→Nat→Int) (i j:Nat) (x:Int) (r c:Nat):castM (addI M i j x) r c=updM (castM M) i j (castM M i j+(x:Rat)) r c:=by
  unfold castM addI updM
  by_cases h:r=i∧c=j
  · rw [if_pos h,if_pos h,Rat.intCast_add,h.1,h.2]
  · rw [if_neg h,if_neg h]
theorem szQ_cast {M:Nat→Nat→Int} {b:Nat} (h:BdI M b) (hb:b≤1000000) (i j:Nat):szQ (castM M i j)≤2:=
  szQ_int _ (Nat.lt_of_le_of_lt (h i j) (by omega))
end Go.Proofs.YtolkchkedieppaaGreat
namespace Go.Proofs.YtolkchkedieppaaGreat
open Go.RowKit
theorem b8s:Tryz.prog.underlying 42=some (.slice (Tryz.prog.elem 42)):=by kernel_rfl
theorem b8z (W:World):(sizeOf (Tryz.prog.elem 42)).run Tryz.prog W = .ok 1 W:=by kernel_rfl
theorem ix8 (g n c i : Nat) (hi : i < n) (W : World) :
    (Instr.indexAt 42 (.slice (some ⟨g,0,none⟩) n c) (.int .i64 (i:Int))).run Tryz.prog W = .ok (.pointer (some ⟨g,i,none⟩)) W:=by
  have h:=run_indexAt_opt 42 b8s b8z (some ⟨g,0,none⟩) g 0 n c (fun _=>rfl) .i64 i (by omega) (by omega) W
  simpa using h
def revF (F:Nat→Value) (n k:Nat) (i:Nat):Value:=if i<n∧(i<k∨n<i+1+k) then F (n - 1 - i) else F i
set_option maxHeartbeats 2000000 in
theorem reverse_any (g c n cap T : Nat) (F : Nat → Value) (w : World) (G : Nat → Int) (h : w.rowIs g T c F) (hG : ∀ i, i < n → F i = .int .u8 (G i)) (hn : n ≤ c) (hm : n ≤ 4611686018427387904) :
    Calls Tryz.prog 151 #[.slice (some ⟨g,0,none⟩) n cap] w fun e w'=>e = .returned (.tuple #[])∧w'.rowIs g T c (fun i=>if i<n then F (n - 1 - i) else F i)∧Below g w w':=by
  have HR:=Lib.hid h
  have HB:=Lib.hid (Below.refl g w)
  have HG:=Lib.hid hG
  clear h hG
  go_enter Tryz.func151,Tryz.ntmps151
  go_wp2
  go_loopw [2,3] (fun v2 v3 wr=>∃ k:Nat,2*k≤n+1∧v2 = .int .i64 (k:Nat)∧v3 = .int .i64 ((n:Int) - 1 - k)∧Hid (wr.rowIs g T c (revF F n k))∧Hid (Below g w wr)) (fun v2 _ _=>n - (intOf v2).toNat)
  case atStart=>exact⟨0,by omega,rfl,by simp,Lib.hid (HR.out.congr (fun i hi=>by unfold revF;rw [if_neg (by omega)])),HB⟩
  case round=>
    obtain⟨k,hk,rfl,rfl,OR,KW⟩:=hrel
    by_cases h:2*k+1<n
    · obtain⟨m,hm2⟩:∃ m:Nat,m+k+1=n:=⟨n - 1 - k,by omega⟩
      have e3:(n:Int) - 1 - k=(m:Int):=by omega
      rw [e3]
      have hkm:k<m:=by omega
      have i1:=fun W=>ix8 g n cap k (by omega) W
      have i2:=fun W=>ix8 g n cap m (by omega) W
      have c1:=OR.out.cell (i:=k) (by omega)
      have c2:=OR.out.cell (i:=m) (by omega)
      have f1:=OR.out.frozen k
      have f2:=OR.out.frozen m
      have e1:revF F n k k = .int .u8 (G k):=by unfold revF;rw [if_neg (by omega),HG.out k (by omega)]
      have e2:revF F n k m = .int .u8 (G m):=by unfold revF;rw [if_neg (by omega),HG.out m (by omega)]
      rw [e1] at c1
      rw [e2] at c2
      have ne1:¬ k=m:=by omega
      have ne2:¬ m=k:=by omega
      clear e1 e2 e3
      go_wp2
      go_region
      all_goals go_wp2
      all_goals
        go_roundw
        case rel=>
          refine⟨k+1,by omega,by go_num,by congr 1;omega,Lib.hid ?_,Lib.hid (by first | exact ((KW.out.setCell (Nat.le_refl _) _).setCell (Nat.le_refl _) _).drew | exact ((KW.out.drew.setCell (Nat.le_refl _) _).setCell (Nat.le_refl _) _))⟩
          refine World.rowIs.congr (((OR.out.set _ _).set _ _).drew) (fun i hi=>?_)
          have q1:n - 1 - k=m:=by omega
          have q2:n - 1 - m=k:=by omega
          have g1:=HG.out k (by omega)
          have g2:=HG.out m (by omega)
          unfold revF
          rcases Nat.lt_trichotomy i k with h | h | h
          · rw [if_neg (by omega),if_neg (by omega),if_pos (by omega),if_pos (by omega)]
          · subst h;rw [if_neg (by omega),if_pos rfl,if_pos (by omega),q1,g2]
          · by_cases h2:i=m
            · subst h2;rw [if_pos rfl,if_pos (by omega),q2,g1]
            · rw [if_neg h2,if_neg (by omega)]
              by_cases h3:i<n∧n<i+1+k
              · rw [if_pos (by omega),if_pos (by omega)]
              · rw [if_neg (by omega),if_neg (by omega)]
        case measure=>simp [intOf];omega
    · have hd:decide ((k:Int)<(n:Int) - 1 - k)=false:=by simp;omega
      go_wp2
      go_end0
      refine⟨rfl,OR.out.congr (fun i hi=>?_),KW.out⟩
      unfold revF
      by_cases h1:i<n
      · rw [if_pos h1]
        by_cases h2:i<k∨n<i+1+k
        · rw [if_pos ⟨h1,h2⟩]
        · rw [if_neg (fun q=>h2 q.2)];congr 1;omega
      · rw [if_neg h1,if_neg (fun q=>h1 q.1)]
end Go.Proofs.YtolkchkedieppaaGreat
namespace Go.Proofs.YtolkchkedieppaaGreat
theorem Dpow_pos (n:Nat):0<10000 ^ n:=Nat.pow_pos (by omega)
def valD (f:Nat→Nat):Nat→Nat
  | 0=>0
  | n+1=>valD f n+f n*10000 ^ n
def dg (x i:Nat):Nat:=x / 10000 ^ i % 10000
def nd (x:Nat):Nat:=if h:x=0 then 0 else nd (x / 10000)+1
termination_by x
decreasing_by omega
theorem dg_lt (x i:Nat):dg x i<10000:=Nat.mod_lt _ (by omega)
theorem nd_le (x n:Nat):nd x≤n↔x<10000 ^ n:=by
  induction n generalizing x with
  | zero=>
    rw [nd]
    by_cases h:x=0
    · simp [h]
    · simp [h]
  | succ n ih=>
    rw [nd]
    by_cases h:x=0
    · subst h;simp [Dpow_pos]
    · rw [dif_neg h,Nat.pow_succ,Nat.add_le_add_iff_right,ih,Nat.div_lt_iff_lt_mul (by omega)]
theorem lt_nd (x n:Nat):n<nd x↔10000 ^ n≤x:=by
  have:=nd_le x n
  omega
theorem lt_pow_nd (x:Nat):x<10000 ^ nd x:=(nd_le x (nd x)).1 (Nat.le_refl _)
theorem nd_zero:nd 0=0:=by rw [nd];simp
theorem nd_pos (x:Nat):0<nd x↔0<x:=by rw [lt_nd];simp;omega
theorem nd_mono {x y:Nat} (h:x≤y):nd x≤nd y:=(nd_le _ _).2 (Nat.lt_of_le_of_lt h (lt_pow_nd y))
theorem valD_lt (f:Nat→Nat) (n:Nat) (h:∀ i,i<n→f i<10000):valD f n<10000 ^ n:=by
  induction n with
  | zero=>simp [valD]
  | succ n ih=>
    have h1:=ih (fun i hi=>h i (by omega))
    have h2:=h n (by omega)
    simp only [valD,Nat.pow_succ]
    have:f n*10000 ^ n+10000 ^ n≤10000*10000 ^ n:=by
      rw [←Nat.succ_mul];exact Nat.mul_le_mul_right _ h2
    rw [Nat.mul_comm (10000 ^ n)]
    omega
theorem valD_congr {f g:Nat→Nat} {n:Nat} (h:∀ i,i<n→f i=g i):valD f n=valD g n:=by
  induction n with
  | zero=>rfl
  | succ n ih=>simp only [valD];rw [ih (fun i hi=>h i (by omega)),h n (by omega)]
theorem valD_dg (x n:Nat):valD (dg x) n=x % 10000 ^ n:=by
  induction n with
  | zero=>simp [valD,Nat.mod_one]
  | succ n ih=>
    simp only [valD,ih,dg]
    rw [Nat.pow_succ,Nat.mod_mul,Nat.mul_comm (10000 ^ n)]
theorem valD_nd (x:Nat):valD (dg x) (nd x)=x:=by
  rw [valD_dg,Nat.mod_eq_of_lt (lt_pow_nd x)]
theorem dg_valD (f:Nat→Nat) (n:Nat) (h:∀ i,i<n→f i<10000) (i:Nat) (hi:i<n):dg (valD f n) i=f i:=by
  induction n with
  | zero=>omega
  | succ n ih=>
    have hl:=valD_lt f n (fun i hi=>h i (by omega))
    by_cases e:i=n
    · subst e
      have hb:=Dpow_pos i
      simp only [valD,dg]
      rw [Nat.add_mul_div_right _ _ hb,Nat.div_eq_of_lt hl,Nat.zero_add,Nat.mod_eq_of_lt (h i (by omega))]
    · have h1:=ih (fun i hi=>h i (by omega)) (by omega)
      rw [←h1]
      obtain⟨d,rfl⟩:∃ d,n=i+1+d:=⟨n - i - 1,by omega⟩
      simp only [valD,dg]
      have:f (i+1+d)*10000 ^ (i+1+d)=(f (i+1+d)*10000 ^ d*10000)*10000 ^ i:=by
        rw [Nat.pow_add,Nat.pow_add];simp only [Nat.pow_one];ac_rfl
      rw [this,Nat.add_mul_div_right _ _ (Dpow_pos i),Nat.add_mul_mod_self_right]
theorem dg_zero_of_lt {x n i:Nat} (h:x<10000 ^ n) (hi:n≤i):dg x i=0:=by
  unfold dg
  rw [Nat.div_eq_of_lt (Nat.lt_of_lt_of_le h (Nat.pow_le_pow_right (by omega) hi))]
theorem valD_trimN (f:Nat→Nat) (n:Nat):valD f (trimN f n)=valD f n:=by
  induction n with
  | zero=>rfl
  | succ n ih=>
    simp only [trimN]
    split
    · rename_i h;rw [ih];simp [valD,h]
    · rfl
theorem nd_valD (f:Nat→Nat) (n:Nat) (h:∀ i,i<n→f i<10000):nd (valD f n)=trimN f n:=by
  have hle:=trimN_le f n
  have h1:nd (valD f n)≤trimN f n:=by
    rw [nd_le,←valD_trimN]
    exact valD_lt f _ (fun i hi=>h i (by omega))
  have h2:trimN f n≤nd (valD f n):=by
    by_cases e:trimN f n=0
    · omega
    · obtain⟨k,hk⟩:∃ k,trimN f n=k+1:=⟨trimN f n - 1,by omega⟩
      have hne:f k≠0:=by
        clear h1 hle h e
        induction n with
        | zero=>simp [trimN] at hk
        | succ n ih=>
          simp only [trimN] at hk
          split at hk
          · exact ih hk
          · have:n=k:=by omega
            subst this;assumption
      rw [hk]
      show k<_
      rw [lt_nd,←valD_trimN,hk]
      simp only [valD]
      have:=Nat.mul_le_mul_right (10000 ^ k) (Nat.one_le_iff_ne_zero.2 hne)
      omega
  omega
theorem nd_add (x y m:Nat) (hx:nd x≤m) (hy:nd y≤m):nd (x+y)≤m+1:=by
  rw [nd_le] at *
  rw [Nat.pow_succ]
  have:=Dpow_pos m
  omega
theorem nd_mul (x y m n:Nat) (hx:nd x≤m) (hy:nd y≤n):nd (x*y)≤m+n:=by
  rw [nd_le] at *
  rw [Nat.pow_add]
  exact Nat.mul_lt_mul'' hx hy
end Go.Proofs.YtolkchkedieppaaGreat
