import Derived.Test.YtgmopcncbpdniaaGreatIRefQs
import Derived.Maps.AppendAt
import Derived.Laws.Rows
import Derived.RegionTactic
import Derived.Test.YtgmopcncbpdniaaGreatIMade
set_option linter.unusedVariables false
set_option linter.unusedSimpArgs false
namespace Go.Proofs.YtgmopcncbpdniaaGreat
open Go.RowKit
section
variable {P:Program} {w:World}
theorem wp_append_kind {o:Oper} {a:Act} {K:Act→World→Prop} {Q:Exit→Act→World→Prop} (s x:Operand) (t:TypeId)
  (ho:o.op = .call { callee:=.builtin .append,args:=#[s,x],argTypes:=#[t,t] })
  (base:Nat) (e:TypeId) (i:TypeInfo) (z:Value) (size bytes:Nat) (ht:P.underlying t=some (.slice e)) (hi:P.info? e=some i) (hz:i.zero=some z)
  (hsize:i.size=size) (hby:i.bytes=bytes) (hzs:z.cells.size=size) (hsz:0<size)
  (v:Value) (n:Nat) (xs:List Value) (hs:a.eval s=v) (hown:w.ownsRow base e size v n xs) (hkind:KindB w v) (hzk:∀ u ∈ z.cells.toList,NoLimb u)
  (ad:Addr) (m c:Nat) (news:List Value) (hx:a.eval x = .slice (some ad) m c) (hl:news.length=m*size) (hnews:∀ j u,news[j]? = some u→w.cell? (ad.add j)=some u) (h1:∀ u ∈ news,u.oneCell'=true) (hnk:∀ u ∈ news,NoLimb u)
  (h63:n+m≤maxLen) (hbytes:(n+m)*bytes≤140737488355328) (hbase:base≤w.heap.size) (hm:0<m)
  (h:∀ v' w',w'.ownsRow base e size v' (n+m) (xs ++ news)→w.grownBy w' v.ownBlock→(v'.ownBlock=v.ownBlock∨v'.ownBlock=some w.heap.size)→KindB w' v'→K (a.put o.dst v') w'):o.wp P a w K Q:=by
 obtain⟨v',w',hr,h2,h3,h5,h6⟩:=run_append_kind (P:=P) base t o.type e i z size bytes ht hi hz hsize hby hzs hsz v n xs hown hkind hzk ad m c news hl hnews h1 hnk h63 hbytes hbase hm
 unfold Oper.wp execOp
 simp only [ho,resolve,invoke,builtin,Sem.run_bind,Sem.run_pure,Result.andThen_ok,List.map_toArray,List.map_cons,List.map_nil,hs,hx,hr]
 exact h v' w' h2 h3 h5 h6
theorem step_append_kind {ops:Array Oper} {o:Oper} {a:Act} {K:Act→World→Prop} {Q:Exit→Act→World→Prop} {E:Prop} (hgd:o.guard=none) (s x:Operand) (t:TypeId)
  (ho:o.op = .call { callee:=.builtin .append,args:=#[s,x],argTypes:=#[t,t] })
  (base:Nat) (e:TypeId) (i:TypeInfo) (z:Value) (size bytes:Nat) (ht:P.underlying t=some (.slice e)) (hi:P.info? e=some i) (hz:i.zero=some z)
  (hsize:i.size=size) (hby:i.bytes=bytes) (hzs:z.cells.size=size) (hsz:0<size)
  (v:Value) (n:Nat) (xs:List Value) (hs:a.eval s=v) (hown:w.ownsRow base e size v n xs) (hkind:KindB w v) (hzk:∀ u ∈ z.cells.toList,NoLimb u)
  (ad:Addr) (m c:Nat) (news:List Value) (hx:a.eval x = .slice (some ad) m c) (hl:news.length=m*size) (hnews:∀ j u,news[j]? = some u→w.cell? (ad.add j)=some u) (h1:∀ u ∈ news,u.oneCell'=true) (hnk:∀ u ∈ news,NoLimb u)
  (h63:n+m≤maxLen) (hbytes:(n+m)*bytes≤140737488355328) (hbase:base≤w.heap.size) (hm:0<m)
  (h:∀ v' w',w'.ownsRow base e size v' (n+m) (xs ++ news)→w.grownBy w' v.ownBlock→(v'.ownBlock=v.ownBlock∨v'.ownBlock=some w.heap.size)→KindB w' v'→K (a.put o.dst v') w') :
  if Region.wanted o (yielded ops a.tmps)=true then Oper.wp P o a w K Q else E:=by
 have hw:Region.wanted o (yielded ops a.tmps)=true:=by simp [Region.wanted,hgd]
 rw [if_pos hw]
 exact wp_append_kind s x t ho base e i z size bytes ht hi hz hsize hby hzs hsz v n xs hs hown hkind hzk ad m c news hx hl hnews h1 hnk h63 hbytes hbase hm h
theorem wp_append_kindz {o:Oper} {a:Act} {K:Act→World→Prop} {Q:Exit→Act→World→Prop} (s x:Operand) (t:TypeId)
  (ho:o.op = .call { callee:=.builtin .append,args:=#[s,x],argTypes:=#[t,t] })
  (base:Nat) (e:TypeId) (i:TypeInfo) (z:Value) (size bytes:Nat) (ht:P.underlying t=some (.slice e)) (hi:P.info? e=some i) (hz:i.zero=some z)
  (hsize:i.size=size) (hby:i.bytes=bytes) (hzs:z.cells.size=size) (hsz:0<size)
  (v:Value) (n:Nat) (xs:List Value) (hs:a.eval s=v) (hown:w.ownsRow base e size v n xs) (hkind:KindZ w v) (hzk:∀ u ∈ z.cells.toList,NoInt u)
  (ad:Addr) (m c:Nat) (news:List Value) (hx:a.eval x = .slice (some ad) m c) (hl:news.length=m*size) (hnews:∀ j u,news[j]? = some u→w.cell? (ad.add j)=some u) (h1:∀ u ∈ news,u.oneCell'=true) (hnk:∀ u ∈ news,NoInt u)
  (h63:n+m≤maxLen) (hbytes:(n+m)*bytes≤140737488355328) (hbase:base≤w.heap.size) (hm:0<m)
  (h:∀ v' w',w'.ownsRow base e size v' (n+m) (xs ++ news)→w.grownBy w' v.ownBlock→(v'.ownBlock=v.ownBlock∨v'.ownBlock=some w.heap.size)→KindZ w' v'→K (a.put o.dst v') w'):o.wp P a w K Q:=by
 obtain⟨v',w',hr,h2,h3,h5,h6⟩:=run_append_kindz (P:=P) base t o.type e i z size bytes ht hi hz hsize hby hzs hsz v n xs hown hkind hzk ad m c news hl hnews h1 hnk h63 hbytes hbase hm
 unfold Oper.wp execOp
 simp only [ho,resolve,invoke,builtin,Sem.run_bind,Sem.run_pure,Result.andThen_ok,List.map_toArray,List.map_cons,List.map_nil,hs,hx,hr]
 exact h v' w' h2 h3 h5 h6
theorem step_append_kindz {ops:Array Oper} {o:Oper} {a:Act} {K:Act→World→Prop} {Q:Exit→Act→World→Prop} {E:Prop} (hgd:o.guard=none) (s x:Operand) (t:TypeId)
  (ho:o.op = .call { callee:=.builtin .append,args:=#[s,x],argTypes:=#[t,t] })
  (base:Nat) (e:TypeId) (i:TypeInfo) (z:Value) (size bytes:Nat) (ht:P.underlying t=some (.slice e)) (hi:P.info? e=some i) (hz:i.zero=some z)
  (hsize:i.size=size) (hby:i.bytes=bytes) (hzs:z.cells.size=size) (hsz:0<size)
  (v:Value) (n:Nat) (xs:List Value) (hs:a.eval s=v) (hown:w.ownsRow base e size v n xs) (hkind:KindZ w v) (hzk:∀ u ∈ z.cells.toList,NoInt u)
  (ad:Addr) (m c:Nat) (news:List Value) (hx:a.eval x = .slice (some ad) m c) (hl:news.length=m*size) (hnews:∀ j u,news[j]? = some u→w.cell? (ad.add j)=some u) (h1:∀ u ∈ news,u.oneCell'=true) (hnk:∀ u ∈ news,NoInt u)
  (h63:n+m≤maxLen) (hbytes:(n+m)*bytes≤140737488355328) (hbase:base≤w.heap.size) (hm:0<m)
  (h:∀ v' w',w'.ownsRow base e size v' (n+m) (xs ++ news)→w.grownBy w' v.ownBlock→(v'.ownBlock=v.ownBlock∨v'.ownBlock=some w.heap.size)→KindZ w' v'→K (a.put o.dst v') w') :
  if Region.wanted o (yielded ops a.tmps)=true then Oper.wp P o a w K Q else E:=by
 have hw:Region.wanted o (yielded ops a.tmps)=true:=by simp [Region.wanted,hgd]
 rw [if_pos hw]
 exact wp_append_kindz s x t ho base e i z size bytes ht hi hz hsize hby hzs hsz v n xs hs hown hkind hzk ad m c news hx hl hnews h1 hnk h63 hbytes hbase hm h
end
end Go.Proofs.YtgmopcncbpdniaaGreat
namespace Go.Proofs.YtgmopcncbpdniaaGreat
open Go.RowKit
theorem QV.keep {w w':World} {u v:Value} {q:Rat} {m:Nat} (h:QV w u q m) (hk:KindZ w v) (hg:w.grownBy w' v.ownBlock):QV w' u q m:=by
 obtain⟨p,d,h1,h2⟩:=h
 exact⟨p,d,h1.keep hk hg,h2⟩
structure VRow (w:World) (base:Nat) (v:Value) (r:Nat) (q:Nat→Rat) (K:Nat) (xs:List Value):Prop where
 kind:KindZ w v
 own:w.ownsRow base 40 4 v r xs
 val:∀ j,j<r→∃ s a m c t a2 m2 c2,xs[j*4]? = some (.bool s)∧xs[j*4+1]? = some (.slice a m c)∧xs[j*4+2]? = some (.bool t)∧xs[j*4+3]? = some (.slice a2 m2 c2)∧QV w (.agg #[.bool s,.slice a m c,.bool t,.slice a2 m2 c2]) (q j) K
structure VSl (w:World) (v:Value) (n:Nat) (q:Nat→Rat) (K:Nat):Prop where
 val:∃ g cap,v = .slice (some ⟨g,0,none⟩) n cap∧n≤cap∧g<w.heap.size∧∀ j,j<n→∃ s a m c t a2 m2 c2,w.cell? ⟨g,j*4,none⟩=some (.bool s)∧w.cell? ⟨g,j*4+1,none⟩=some (.slice a m c)∧w.cell? ⟨g,j*4+2,none⟩=some (.bool t)∧w.cell? ⟨g,j*4+3,none⟩=some (.slice a2 m2 c2)∧QV w (.agg #[.bool s,.slice a m c,.bool t,.slice a2 m2 c2]) (q j) K
variable {w w':World} {base r K:Nat} {v:Value} {q:Nat→Rat} {xs:List Value}
theorem VRow.nil (w:World) (base:Nat) (q:Nat→Rat) (K:Nat) (v:Value) (h:w.ownsRow base 40 4 v 0 []) (hk:KindZ w v):VRow w base v 0 q K []:=⟨hk,h,fun j hj=>by omega⟩
theorem VRow.below (h:VRow w base v r q K xs) (hb:Below w.heap.size w w'):VRow w' base v r q K xs:=
 ⟨h.kind.below hb (fun g hg=>(h.own.lt g hg).2),own_kept h.own hb,fun j hj=>by
  obtain⟨s,a,m,c,t,a2,m2,c2,h1,h2,h3,h4,h5⟩:=h.val j hj
  exact⟨s,a,m,c,t,a2,m2,c2,h1,h2,h3,h4,h5.mono hb (Nat.le_refl _)⟩⟩
theorem VRow.push {v':Value} {x:Rat} {s t:Bool} {a a2:Option Addr} {m c m2 c2:Nat} (h:VRow w base v r q K xs) (hx:QV w (.agg #[.bool s,.slice a m c,.bool t,.slice a2 m2 c2]) x K) (hq:q r=x)
  (hgrow:w.grownBy w' v.ownBlock) (hown:w'.ownsRow base 40 4 v' (r+1) (xs ++ [.bool s,.slice a m c,.bool t,.slice a2 m2 c2])) (hkind:KindZ w' v'):VRow w' base v' (r+1) q K (xs ++ [.bool s,.slice a m c,.bool t,.slice a2 m2 c2]):=by
 have hl:=h.own.1
 refine⟨hkind,hown,fun j hj=>?_⟩
 by_cases e:j<r
 ·obtain⟨s',a',m',c',t',a2',m2',c2',h1,h2,h3,h4,h5⟩:=h.val j e
  exact⟨s',a',m',c',t',a2',m2',c2',by rw [List.getElem?_append_left (by omega)];exact h1,by rw [List.getElem?_append_left (by omega)];exact h2,by rw [List.getElem?_append_left (by omega)];exact h3,by rw [List.getElem?_append_left (by omega)];exact h4,h5.keep h.kind hgrow⟩
 ·obtain rfl:j=r:=by omega
  refine⟨s,a,m,c,t,a2,m2,c2,?_,?_,?_,?_,by rw [hq];exact hx.keep h.kind hgrow⟩
  ·rw [List.getElem?_append_right (by omega),hl,Nat.sub_self];rfl
  ·rw [List.getElem?_append_right (by omega),hl,show j*4+1 - j*4=1 by omega];rfl
  ·rw [List.getElem?_append_right (by omega),hl,show j*4+2 - j*4=2 by omega];rfl
  ·rw [List.getElem?_append_right (by omega),hl,show j*4+3 - j*4=3 by omega];rfl
theorem VRow.alloc (h:VRow w base v r q K xs) (o:Obj):VRow (w.alloc o) base v r q K xs:=h.below ((Below.refl w.heap.size w).alloc (Nat.le_refl _) o)
theorem VRow.drew (h:VRow w base v r q K xs):VRow w.drew base v r q K xs:=h.below (Below.refl w.heap.size w).drew
theorem VRow.sl (h:VRow w base v r q K xs) (h0:0<r):VSl w v r q K:=by
 have h1:=h.own
 rcases h1.2 with ⟨_,e⟩ | ⟨g,cap,cur,hv,hbg,hg,hcap,hml,hsz,htk⟩
 ·omega
 ·subst hv
  have hlt:g<w.heap.size:=(Array.getElem?_eq_some_iff.1 hg).1
  have hc:=h1.cells (g:=g) rfl
  refine⟨g,cap,rfl,by omega,hlt,fun j hj=>?_⟩
  obtain⟨s',a',m',c',t',a2',m2',c2',k1,k2,k3,k4,k5⟩:=h.val j hj
  have k:∀ i u,xs[i]? = some u→w.cell? ⟨g,i,none⟩=some u:=fun i u hu=>by
   have:=hc i u hu
   rw [add_at,Nat.zero_add] at this;exact this
  exact⟨s',a',m',c',t',a2',m2',c2',k _ _ k1,k _ _ k2,k _ _ k3,k _ _ k4,k5⟩
theorem vrow_start (w:World) (q:Nat→Rat) (K:Nat):VRow (w.alloc (.cells #[] 40)) w.heap.size (.slice (some ⟨w.heap.size,0,none⟩) 0 0) 0 q K []:=
 VRow.nil _ _ _ _ _ (World.ownsRow_made (e:=40) (base:=w.heap.size) (size:=4) w #[] 0 (Nat.le_refl _) (by unfold maxLen;omega) rfl) (kindz_made _ _ _ _)
variable {n:Nat}
theorem VSl.mono {B:Nat} (h:VSl w v n q K) (hb:Below B w w') (hB:w.heap.size≤B):VSl w' v n q K:=by
 obtain⟨g,cap,rfl,h1,h2,h3⟩:=h.val
 refine⟨g,cap,rfl,h1,Nat.lt_of_lt_of_le h2 hb.size,fun j hj=>?_⟩
 obtain⟨s,a,m,c,t,a2,m2,c2,k1,k2,k3,k4,k5⟩:=h3 j hj
 have k:∀ i,w'.cell? ⟨g,i,none⟩=w.cell? ⟨g,i,none⟩:=fun i=>hb.cell (p:=⟨g,i,none⟩) (Nat.lt_of_lt_of_le h2 hB)
 exact⟨s,a,m,c,t,a2,m2,c2,(k _).trans k1,(k _).trans k2,(k _).trans k3,(k _).trans k4,k5.mono hb hB⟩
theorem VSl.of (h:QSl w v n (qN q) (qD q) K):VSl w v n q K:=by
 obtain⟨g,cap,rfl,h1,h2,h3⟩:=h.val
 refine⟨g,cap,rfl,h1,h2,fun j hj=>?_⟩
 obtain⟨s,a,m,c,t,a2,m2,c2,k1,k2,k3,k4,k5⟩:=h3 j hj
 exact⟨s,a,m,c,t,a2,m2,c2,k1,k2,k3,k4,QV.of k5⟩
theorem VSl.congr {q':Nat→Rat} (h:VSl w v n q K) (e:∀ j,j<n→q j=q' j):VSl w v n q' K:=by
 obtain⟨g,cap,rfl,h1,h2,h3⟩:=h.val
 refine⟨g,cap,rfl,h1,h2,fun j hj=>?_⟩
 rw [←e j hj];exact h3 j hj
end Go.Proofs.YtgmopcncbpdniaaGreat
namespace Go.Proofs.YtgmopcncbpdniaaGreat
open Go.RowKit
attribute [local go_sem ↓] Go.wp_at_zero Go.wp_at_succ
theorem low_parts {p d:Int} {q:Rat} (hd:0<d) (h:(p:Rat)=q*(d:Rat)):p / ((Int.gcd p d:Nat):Int)=q.num∧d / ((Int.gcd p d:Nat):Int)=((q.den:Nat):Int):=by
 have e:q=Rat.divInt p d:=by
  rw [Rat.divInt_eq_div,h,Rat.div_def,Rat.mul_assoc,Rat.mul_inv_cancel _ (rat_ne hd),Rat.mul_one]
 rw [e,Rat.num_divInt,Rat.den_divInt,Int.gcd_comm d p]
 have hs:d.sign=1:=Int.sign_eq_one_of_pos hd
 refine⟨by rw [hs,Int.one_mul],?_⟩
 rw [if_neg (by omega)]
 obtain⟨D,rfl⟩:=Int.eq_ofNat_of_zero_le (Int.le_of_lt hd)
 rw [Int.natAbs_natCast,←Int.natCast_ediv]
theorem qv_low (x:Value) (q:Rat) (k:Nat) (w:World) (hx:QV w x q k) (hk:k≤274877906940) :
  Calls Tryz.prog 50 #[x] w fun ex w'=>∃ r,ex = .returned r∧QIs w' r q.num ((q.den:Nat):Int) k∧Below w.heap.size w w':=by
 obtain⟨p,d,h,e⟩:=hx
 have hd:=h.pos
 refine (qlow_any x p d k w h hk).mono ?_
 rintro ex w' ⟨r,rfl,hr,hb⟩
 obtain⟨e1,e2⟩:=low_parts hd e
 rw [e1,e2] at hr
 exact⟨r,rfl,hr,hb⟩
theorem ZIs.sign {w:World} {s:Bool} {u:Value} {z:Int} {m:Nat} (h:ZIs w (.agg #[.bool s,u]) z m):s=decide (z<0):=by
 obtain⟨u',e,_⟩:=h
 injection e with e
 injection e with e
 simp only [List.cons.injEq,and_true] at e
 obtain⟨e,_⟩:=e
 injection e
set_option maxHeartbeats 2000000 in
theorem over_pos (x y:Value) (p d:Int) (k:Nat) (w:World) (hx:ZIs w x p k) (hy:ZIs w y d k) (hd:0<d) :
  Calls Tryz.prog 82 #[x,y] w fun ex w'=>∃ r,ex = .returned r∧QIs w' r p d k∧Below w.heap.size w w':=by
 obtain⟨s1,a1,n1,c1,rfl,HA⟩:=hx.shape
 obtain⟨s2,a2,n2,c2,rfl,HB⟩:=hy.shape
 clear hx hy
 obtain rfl:s2=false:=by rw [HB.out.sign];simp;omega
 have HD:=Lib.hid hd
 clear hd
 have KW:=Lib.hid (boxes3 w (Obj.cells #[.bool s1,.slice a1 n1 c1] 38) (Obj.cells #[.bool false,.slice a2 n2 c2] 38) (Obj.cells #[.bool false,.slice none 0 0,.bool false,.slice none 0 0] 40))
 go_enter Tryz.func82,Tryz.ntmps82
 go_wp2_with fail
 refine bodyPost_ret (v:=.agg #[.bool s1,.slice a1 n1 c1,.bool false,.slice a2 n2 c2]) (by simp [results,Tryz.results82,go_sem]) rfl ?_
 exact⟨_,rfl,⟨_,_,_,_,rfl,HA.out.mono (boxes3 w _ _ _) (Nat.le_refl _),HB.out.mono (boxes3 w _ _ _) (Nat.le_refl _),HD.out⟩,boxes3 w _ _ _⟩
set_option maxHeartbeats 2000000 in
theorem over_neg (x y:Value) (p d:Int) (k:Nat) (w:World) (hx:ZIs w x p k) (hy:ZIs w y d k) (hd:d<0) :
  Calls Tryz.prog 82 #[x,y] w fun ex w'=>∃ r,ex = .returned r∧QIs w' r (-p) (-d) k∧Below w.heap.size w w':=by
 obtain⟨s1,a1,n1,c1,rfl,HA⟩:=hx.shape
 obtain⟨s2,a2,n2,c2,rfl,HB⟩:=hy.shape
 clear hx hy
 obtain rfl:s2=true:=by rw [HB.out.sign];simp;omega
 have HD:Hid (0 < -d):=Lib.hid (by omega)
 clear hd
 have KW:Hid (Below w.heap.size w (((w.alloc (Obj.cells #[.bool s1,.slice a1 n1 c1] 38)).alloc (Obj.cells #[.bool true,.slice a2 n2 c2] 38)).alloc (Obj.cells #[.bool false,.slice none 0 0,.bool false,.slice none 0 0] 40))):=boxes3 w _ _ _
 have KA:=Lib.hid (HA.out.mono KW.out (Nat.le_refl _))
 have KB:=Lib.hid (HB.out.mono KW.out (Nat.le_refl _))
 have O1:Hid (Own2 (((w.alloc (Obj.cells #[.bool s1,.slice a1 n1 c1] 38)).alloc (Obj.cells #[.bool true,.slice a2 n2 c2] 38)).alloc (Obj.cells #[.bool false,.slice none 0 0,.bool false,.slice none 0 0] 40)) w.heap.size (.bool s1) (.slice a1 n1 c1)):=((own2_new _ _ rfl _ _ _).alloc _).alloc _
 have O2:Hid (Own2 (((w.alloc (Obj.cells #[.bool s1,.slice a1 n1 c1] 38)).alloc (Obj.cells #[.bool true,.slice a2 n2 c2] 38)).alloc (Obj.cells #[.bool false,.slice none 0 0,.bool false,.slice none 0 0] 40)) (w.heap.size+1) (.bool true) (.slice a2 n2 c2)):=(own2_new _ _ (by simp) _ _ _).alloc _
 have O3:Hid (Own4 (((w.alloc (Obj.cells #[.bool s1,.slice a1 n1 c1] 38)).alloc (Obj.cells #[.bool true,.slice a2 n2 c2] 38)).alloc (Obj.cells #[.bool false,.slice none 0 0,.bool false,.slice none 0 0] 40)) (w.heap.size+1+1) (.bool false) (.slice none 0 0) (.bool false) (.slice none 0 0)):=own4_new _ _ (by simp) _ _ _ _ _
 clear HA HB
 go_enter Tryz.func82,Tryz.ntmps82
 go_wp2
 have KW:=Lib.hid KW.out.drew
 have KA:=Lib.hid KA.out.drew
 have KB:=Lib.hid KB.out.drew
 have O1:=Lib.hid O1.out.drew
 have O2:=Lib.hid O2.out.drew
 have O3:=Lib.hid O3.out.drew
 have x10:=O1.out.c0;have x11:=O1.out.c1;have xl1:=O1.out.lt;have xf1:=O1.out.f
 have x20:=O2.out.c0;have x21:=O2.out.c1;have xl2:=O2.out.lt;have xf2:=O2.out.f
 go_region_with (first
  | (go_at_call 93;have X1:=KA.out;clear KA;(with_reducible refine (zneg_any _ p k _ X1).mono ?_);clear X1;rintro e w3 ⟨r3,rfl,hr3,hb3⟩;obtain⟨s3,a3,n3,c3,rfl,KA2⟩:=hr3.shape;clear hr3;have KB:=Lib.hid (KB.out.mono hb3 (Nat.le_refl _));have O1:=Lib.hid (O1.out.below hb3 O1.out.lt);have O2:=Lib.hid (O2.out.below hb3 O2.out.lt);have O3:=Lib.hid (O3.out.below hb3 O3.out.lt);have KW:=Lib.hid (KW.out.trans (hb3.mono KW.out.size));clear x10 x11 xl1 xf1 x20 x21 xl2 xf2;have x10:=O1.out.c0;have x11:=O1.out.c1;have xl1:=O1.out.lt;have xf1:=O1.out.f;have x20:=O2.out.c0;have x21:=O2.out.c1;have xl2:=O2.out.lt;have xf2:=O2.out.f)
  | (go_at_call 93;have X1:=KB.out;clear KB;(with_reducible refine (zneg_any _ d k _ X1).mono ?_);clear X1;rintro e w4 ⟨r4,rfl,hr4,hb4⟩;obtain⟨s4,a4,n4,c4,rfl,KB2⟩:=hr4.shape;clear hr4;have KA2:=Lib.hid (KA2.out.mono hb4 (Nat.le_refl _));have O1:=Lib.hid (O1.out.below hb4 O1.out.lt);have O2:=Lib.hid (O2.out.below hb4 O2.out.lt);have O3:=Lib.hid (O3.out.below hb4 O3.out.lt);have KW:=Lib.hid (KW.out.trans (hb4.mono KW.out.size));clear x10 x11 xl1 xf1 x20 x21 xl2 xf2;have x10:=O1.out.c0;have x11:=O1.out.c1;have xl1:=O1.out.lt;have xf1:=O1.out.f;have x20:=O2.out.c0;have x21:=O2.out.c1;have xl2:=O2.out.lt;have xf2:=O2.out.f))
 all_goals
  have O2':=O2.out.off2 (b':=w.heap.size) (by omega) (.bool s3) (.slice a3 n3 c3)
  have NA:=Lib.hid ((KA2.out.off2 O1.out (noInt_bool _) (noInt_slice _ _ _) (.bool s3) (.slice a3 n3 c3)).off2 O2' (noInt_bool _) (noInt_slice _ _ _) (.bool s4) (.slice a4 n4 c4))
  have NB:=Lib.hid ((KB2.out.off2 O1.out (noInt_bool _) (noInt_slice _ _ _) (.bool s3) (.slice a3 n3 c3)).off2 O2' (noInt_bool _) (noInt_slice _ _ _) (.bool s4) (.slice a4 n4 c4))
  have Q1:=Lib.hid ((O1.out.anew2 (.bool s3) (.slice a3 n3 c3)).off2 (b':=w.heap.size+1) (by omega) (.bool s4) (.slice a4 n4 c4))
  have Q2:=Lib.hid (O2'.anew2 (.bool s4) (.slice a4 n4 c4))
  have Q3:=Lib.hid ((((O3.out.setCell w.heap.size 0 (.bool s3) (by omega)).setCell w.heap.size 1 (.slice a3 n3 c3) (by omega)).setCell (w.heap.size+1) 0 (.bool s4) (by omega)).setCell (w.heap.size+1) 1 (.slice a4 n4 c4) (by omega))
  have KV:=Lib.hid ((((KW.out.setCell (p:=⟨w.heap.size,0,none⟩) (Nat.le_refl _) (.bool s3)).setCell (p:=⟨w.heap.size,1,none⟩) (Nat.le_refl _) (.slice a3 n3 c3)).setCell (p:=⟨w.heap.size+1,0,none⟩) (Nat.le_succ _) (.bool s4)).setCell (p:=⟨w.heap.size+1,1,none⟩) (Nat.le_succ _) (.slice a4 n4 c4))
  clear KA2 KB2 KW O1 O2 O3 O2' x10 x11 xl1 xf1 x20 x21 xl2 xf2 hb3 hb4
  generalize ((((w4.setCell ⟨w.heap.size,0,none⟩ (.bool s3)).setCell ⟨w.heap.size,1,none⟩ (.slice a3 n3 c3)).setCell ⟨w.heap.size+1,0,none⟩ (.bool s4)).setCell ⟨w.heap.size+1,1,none⟩ (.slice a4 n4 c4))=w5 at *
  obtain⟨x10,x11,_,xl1⟩:=Q1.out
  obtain⟨x20,x21,_,xl2⟩:=Q2.out
  obtain⟨x30,x31,x32,x33,xf3,xl3⟩:=Q3.out
  go_wp2_with fail
  refine bodyPost_ret (v:=.agg #[.bool s3,.slice a3 n3 c3,.bool s4,.slice a4 n4 c4]) (by simp [results,Tryz.results82,go_sem,x30,x31,x32,x33,xf3,xl3]) rfl ?_
  exact⟨_,rfl,⟨_,_,_,_,rfl,NA.out.store4 Q3.out _ _ _ _,NB.out.store4 Q3.out _ _ _ _,HD.out⟩,below_set4q KV.out (by omega) _ _ _ _⟩
theorem over_any (x y:Value) (p d:Int) (k:Nat) (w:World) (hx:ZIs w x p k) (hy:ZIs w y d k) (hd:d≠0) :
  Calls Tryz.prog 82 #[x,y] w fun ex w'=>∃ r P D,ex = .returned r∧QIs w' r P D k∧P*d=p*D∧Below w.heap.size w w':=by
 rcases Int.lt_or_gt_of_ne hd with h | h
 ·refine (over_neg x y p d k w hx hy h).mono ?_
  rintro ex w' ⟨r,rfl,hr,hb⟩
  exact⟨r,_,_,rfl,hr,by rw [Int.neg_mul,Int.mul_neg],hb⟩
 ·refine (over_pos x y p d k w hx hy h).mono ?_
  rintro ex w' ⟨r,rfl,hr,hb⟩
  exact⟨r,_,_,rfl,hr,rfl,hb⟩
set_option maxHeartbeats 1000000 in
theorem make_any (v u:Int) (w:World) (h1 : -9223372036854775808≤v) (h2:v<9223372036854775808) (h3 : -9223372036854775808≤u) (h4:u<9223372036854775808) (hu:u≠0) :
  Calls Tryz.prog 49 #[.int .i64 v,.int .i64 u] w fun ex w'=>∃ r,ex = .returned r∧QIs w' r ((v:Rat) / (u:Rat)).num ((((v:Rat) / (u:Rat)).den:Nat):Int) 5∧Below w.heap.size w w':=by
 have H12:=Lib.hid (And.intro h1 h2)
 have H34:=Lib.hid (And.intro h3 h4)
 have HU:=Lib.hid hu
 have O4:=Lib.hid (own4_new w w.heap.size rfl (.bool false) (.slice none 0 0) (.bool false) (.slice none 0 0) 40)
 have KW:=Lib.hid (boxes1 w (.cells #[.bool false,.slice none 0 0,.bool false,.slice none 0 0] 40))
 clear h1 h2 h3 h4 hu
 go_enter Tryz.func49,Tryz.ntmps49
 go_wp2_with fail
 refine (zint_any v H12.out.1 H12.out.2 _).mono ?_
 rintro e w1 ⟨r1,rfl,hr1,hb1⟩
 obtain⟨s1,a1,n1,c1,rfl,K1⟩:=hr1.shape
 have O4:=Lib.hid (O4.out.below hb1 O4.out.lt)
 have KW:=Lib.hid (KW.out.trans (hb1.mono KW.out.size))
 clear hr1 hb1
 go_wp2_with fail
 refine (zint_any u H34.out.1 H34.out.2 _).mono ?_
 rintro e w2 ⟨r2,rfl,hr2,hb2⟩
 obtain⟨s2,a2,n2,c2,rfl,K2⟩:=hr2.shape
 have K1:=Lib.hid (K1.out.mono hb2 (Nat.le_refl _))
 have O4:=Lib.hid (O4.out.below hb2 O4.out.lt)
 have KW:=Lib.hid (KW.out.trans (hb2.mono KW.out.size))
 clear hr2 hb2
 go_wp2_with fail
 refine (over_any _ _ v u 5 _ K1.out K2.out HU.out).mono ?_
 rintro e w3 ⟨r3,P,D,rfl,hr3,hv3,hb3⟩
 have hD:=hr3.pos
 have HV:Hid (QV w3 r3 ((v:Rat) / (u:Rat)) 5):=Lib.hid ⟨P,D,hr3,by
  have h3:((P*u:Int):Rat)=((v*D:Int):Rat):=by rw [hv3]
  rw [Rat.intCast_mul,Rat.intCast_mul] at h3
  have n1:(u:Rat)≠0:=fun e=>by
   have:((u:Int):Rat)=((0:Int):Rat):=e
   exact HU.out (Rat.intCast_inj.1 this)
  have h4:=Rat.mul_inv_cancel _ n1
  rw [Rat.div_def]
  have h5:(P:Rat)=(P:Rat)*(u:Rat)*(u:Rat)⁻¹:=by rw [Rat.mul_assoc,h4];grind
  rw [h5,h3];grind⟩
 obtain⟨s3,a3,n3,c3,t3,a4,n4,c4,rfl,HV⟩:=HV.out.shape
 have O4:=Lib.hid (O4.out.below hb3 O4.out.lt)
 have KW:=Lib.hid (KW.out.trans (hb3.mono KW.out.size))
 clear hr3 hv3 hb3 hD K1 K2
 go_wp2_with fail
 refine (qv_low _ _ 5 _ HV.out (by omega)).mono ?_
 rintro e w4 ⟨r4,rfl,hr4,hb4⟩
 obtain⟨s5,a5,n5,c5,t5,a6,n6,c6,rfl,HN,HD,hd⟩:=hr4.shape
 have hd:=Lib.hid hd
 have O4:=Lib.hid (O4.out.below hb4 O4.out.lt)
 have KW:=Lib.hid (KW.out.trans (hb4.mono KW.out.size))
 clear hr4 hb4
 obtain⟨x0,x1,x2,x3,xf,xl⟩:=O4.out
 go_wp2_with fail
 refine bodyPost_ret (v:=.agg #[.bool s5,.slice a5 n5 c5,.bool t5,.slice a6 n6 c6]) (by simp [results,Tryz.results49,go_sem,x0,x1,x2,x3,xf,xl]) rfl ?_
 exact⟨_,rfl,⟨_,_,_,_,rfl,HN.out.store4 O4.out _ _ _ _,HD.out.store4 O4.out _ _ _ _,hd.out⟩,below_set4q KW.out (by omega) _ _ _ _⟩
end Go.Proofs.YtgmopcncbpdniaaGreat
