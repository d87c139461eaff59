import Derived.Test.YtgmopcncbpdniaaGreatILin0
import Derived.Test.YtgmopcncbpdniaaGreatIShelf
import Derived.Laws.CopyRow
import Derived.Test.YtgmopcncbpdniaaGreatIGen
import Derived.Test.YtgmopcncbpdniaaGreatITakes
set_option linter.unusedVariables false
set_option linter.unusedSimpArgs false
namespace Go.Proofs.YtgmopcncbpdniaaGreat
open Go.RowKit
abbrev st4 (w:World) (g o:Nat) (u0 u1 u2 u3:Value):World:=
  (((w.setCell ⟨g,o,none⟩ u0).setCell ⟨g,o+1,none⟩ u1).setCell ⟨g,o+2,none⟩ u2).setCell ⟨g,o+3,none⟩ u3
theorem size_st4 (w:World) (g o:Nat) (u0 u1 u2 u3:Value):(st4 w g o u0 u1 u2 u3).heap.size=w.heap.size:=by simp [st4,World.setCell]
theorem frozen_st4 (w:World) (g o:Nat) (u0 u1 u2 u3:Value) (a:Addr):(st4 w g o u0 u1 u2 u3).frozen? a=w.frozen? a:=by simp only [st4,World.frozen?_setCell]
theorem Rd4.anew {w:World} {g o:Nat} {x y z u:Value} (h:Rd4 w g o x y z u) (u0 u1 u2 u3:Value):Rd4 (st4 w g o u0 u1 u2 u3) g o u0 u1 u2 u3:=
  ⟨off_set (by omega) (off_set (by omega) (off_set (by omega) (self_set h.c0))),
   off_set (by omega) (off_set (by omega) (self_set (off_set (by omega) h.c1))),
   off_set (by omega) (self_set (off_set (by omega) (off_set (by omega) h.c2))),
   self_set (off_set (by omega) (off_set (by omega) (off_set (by omega) h.c3))),by rw [size_st4];exact h.lt⟩
theorem off4 {w:World} {g o o':Nat} {v:Value} (u0 u1 u2 u3:Value) (h0:o'<o∨o+4≤o') (h:w.cell? ⟨g,o',none⟩=some v):(st4 w g o u0 u1 u2 u3).cell? ⟨g,o',none⟩=some v:=
  off_set (by omega) (off_set (by omega) (off_set (by omega) (off_set (by omega) h)))
theorem Rd4.off {w:World} {g o o':Nat} {x y z u:Value} (h:Rd4 w g o' x y z u) (u0 u1 u2 u3:Value) (h0:o'+4≤o∨o+4≤o'):Rd4 (st4 w g o u0 u1 u2 u3) g o' x y z u:=
  ⟨off4 _ _ _ _ (by omega) h.c0,off4 _ _ _ _ (by omega) h.c1,off4 _ _ _ _ (by omega) h.c2,off4 _ _ _ _ (by omega) h.c3,by rw [size_st4];exact h.lt⟩
theorem far4 {w:World} {g o b o':Nat} (u0 u1 u2 u3:Value) (hne:g≠b):(st4 w g o u0 u1 u2 u3).cell? ⟨b,o',none⟩=w.cell? ⟨b,o',none⟩:=by
  simp only [st4];rw [far_set _ _ _ _ _ _ hne,far_set _ _ _ _ _ _ hne,far_set _ _ _ _ _ _ hne,far_set _ _ _ _ _ _ hne]
theorem Rd4.far {w:World} {g o b o':Nat} {x y z u:Value} (h:Rd4 w b o' x y z u) (u0 u1 u2 u3:Value) (hne:g≠b):Rd4 (st4 w g o u0 u1 u2 u3) b o' x y z u:=
  ⟨(far4 _ _ _ _ hne).trans h.c0,(far4 _ _ _ _ hne).trans h.c1,(far4 _ _ _ _ hne).trans h.c2,(far4 _ _ _ _ hne).trans h.c3,by rw [size_st4];exact h.lt⟩
theorem Mag.at4 {w:World} {v:Value} {x g o:Nat} (h:Mag w v x) (u0 u1 u2 u3:Value) {v0 v1 v2 v3:Value} (hr:Rd4 w g o v0 v1 v2 v3) (n0:NoInt v0) (n1:NoInt v1) (n2:NoInt v2) (n3:NoInt v3):Mag (st4 w g o u0 u1 u2 u3) v x:=by
  refine (((h.store1 u0 hr.c0 n0).store1 u1 ?_ n1).store1 u2 ?_ n2).store1 u3 ?_ n3
  · exact off_set (by omega) hr.c1
  · exact off_set (by omega) (off_set (by omega) hr.c2)
  · exact off_set (by omega) (off_set (by omega) (off_set (by omega) hr.c3))
theorem RatIs.at4 {w : World} {v : Value} {q : Rat} {m g o : Nat} {s t : Bool} {a a2 : Option Addr} {n c n2 c2 : Nat} (h : RatIs w v q m) (u0 u1 u2 u3 : Value) (hr : Rd4 w g o (.bool s) (.slice a n c) (.bool t) (.slice a2 n2 c2)) :
    RatIs (st4 w g o u0 u1 u2 u3) v q m:=by
  obtain⟨u,d,rfl,m1,m2,m3⟩:=h
  exact⟨u,d,rfl,m1.at4 u0 u1 u2 u3 hr (noInt_bool _) (noInt_slice _ _ _) (noInt_bool _) (noInt_slice _ _ _),m2.at4 u0 u1 u2 u3 hr (noInt_bool _) (noInt_slice _ _ _) (noInt_bool _) (noInt_slice _ _ _),m3⟩
structure RowP (w:World) (g n:Nat) (P:Nat→Prop) (q:Nat→Rat) (K:Nat):Prop where
  cell:∀ j,j<n→∃ s a m c a2 m2 c2,Rd4 w g (j*4) (.bool s) (.slice a m c) (.bool false) (.slice a2 m2 c2)∧(P j→RatIs w (.agg #[.bool s,.slice a m c,.bool false,.slice a2 m2 c2]) (q j) K)
  f:∀ o,w.frozen? ⟨g,o,none⟩=false
  lt:g<w.heap.size
abbrev RatRow (w:World) (g n:Nat) (q:Nat→Rat) (K:Nat):Prop:=RowP w g n (fun _=>True) q K
variable {w w':World} {g n K B i o:Nat} {P:Nat→Prop} {q:Nat→Rat}
theorem RowP.below (h:RowP w g n P q K) (hb:Below B w w') (hB:w.heap.size≤B):RowP w' g n P q K:=
  ⟨fun j hj=>by
    obtain⟨s,a,m,c,a2,m2,c2,h1,h2⟩:=h.cell j hj
    exact⟨s,a,m,c,a2,m2,c2,h1.below hb (Nat.lt_of_lt_of_le h1.lt hB),fun p=>(h2 p).mono hb hB⟩,
   fun o=>(hb.frozen (p:=⟨g,o,none⟩) (Nat.lt_of_lt_of_le h.lt hB)).trans (h.f o),Nat.lt_of_lt_of_le h.lt hb.size⟩
theorem RowP.drew (h:RowP w g n P q K):RowP w.drew g n P q K:=h.below ((Drawn.of w 1).below w.heap.size) (Nat.le_refl _)
theorem RowP.alloc (h:RowP w g n P q K) (o:Obj):RowP (w.alloc o) g n P q K:=h.below ((Below.refl w.heap.size w).alloc (Nat.le_refl _) o) (Nat.le_refl _)
def updQ (q:Nat→Rat) (i:Nat) (x:Rat):Nat→Rat:=fun j=>if j=i then x else q j
theorem RowP.set (h : RowP w g n P q K) (hi : i < n) (ho : o = i * 4) {s : Bool} {a a2 : Option Addr} {m c m2 c2 : Nat} {x : Rat}
    (hx:RatIs w (.agg #[.bool s,.slice a m c,.bool false,.slice a2 m2 c2]) x K) :
    RowP (st4 w g o (.bool s) (.slice a m c) (.bool false) (.slice a2 m2 c2)) g n (fun j=>j=i∨P j) (updQ q i x) K:=by
  subst ho
  obtain⟨s',a',m',c',a2',m2',c2',hr,hv⟩:=h.cell i hi
  refine⟨fun j hj=>?_,fun o=>by rw [frozen_st4];exact h.f o,by rw [size_st4];exact h.lt⟩
  by_cases e:j=i
  · subst e
    exact⟨s,a,m,c,a2,m2,c2,hr.anew _ _ _ _,fun _=>by rw [updQ,if_pos rfl];exact hx.at4 _ _ _ _ hr⟩
  · obtain⟨s1,a1,m1,c1,b1,m3,c3,hr1,hv1⟩:=h.cell j hj
    exact⟨s1,a1,m1,c1,b1,m3,c3,hr1.off _ _ _ _ (by omega),fun p=>by rw [updQ,if_neg e];exact (hv1 (p.resolve_left e)).at4 _ _ _ _ hr⟩
theorem RowP.le {K':Nat} (h:RowP w g n P q K) (hk:K≤K'):RowP w g n P q K':=
  ⟨fun j hj=>by obtain⟨s,a,m,c,a2,m2,c2,hr,hv⟩:=h.cell j hj;exact⟨s,a,m,c,a2,m2,c2,hr,fun p=>(hv p).le hk⟩,h.f,h.lt⟩
theorem RowP.congr {P':Nat→Prop} {q':Nat→Rat} (h:RowP w g n P q K) (hP:∀ j,j<n→P' j→P j∧q j=q' j):RowP w g n P' q' K:=
  ⟨fun j hj=>by obtain⟨s,a,m,c,a2,m2,c2,hr,hv⟩:=h.cell j hj;exact⟨s,a,m,c,a2,m2,c2,hr,fun p=>by rw [←(hP j hj p).2];exact hv (hP j hj p).1⟩,h.f,h.lt⟩
theorem RowP.rats (h:RatRow w g n q K):IsRats w g 0 n q K:=fun j hj=>by
  obtain⟨s,a,m,c,a2,m2,c2,hr,hv⟩:=h.cell j hj
  exact⟨s,a,m,c,a2,m2,c2,by rw [Nat.zero_add];exact hr,hv trivial⟩
theorem below_st4 {w0:World} {b:Nat} (h:Below B w0 w) (hB:B≤b) (u0 u1 u2 u3:Value):Below B w0 (st4 w b o u0 u1 u2 u3):=
  (((h.setCell hB _).setCell hB _).setCell hB _).setCell hB _
end Go.Proofs.YtgmopcncbpdniaaGreat
namespace Go.Proofs.YtgmopcncbpdniaaGreat
open Go.RowKit
attribute [local go_sem ↓] Go.wp_at_zero Go.wp_at_succ
theorem lmat_s:Tryz.prog.underlying 154=some (.slice (Tryz.prog.elem 154)):=by kernel_rfl
theorem lmat_z (W:World):(sizeOf (Tryz.prog.elem 154)).run Tryz.prog W = .ok 1 W:=by kernel_rfl
theorem ixL (b o n c i : Nat) (hi : i < n) (W : World) :
    (Instr.indexAt 154 (.slice (some ⟨b,o,none⟩) n c) (.int .i64 (i:Int))).run Tryz.prog W = .ok (.pointer (some ⟨b,o+i,none⟩)) W:=
  run_indexAt_opt 154 lmat_s lmat_z _ b o n c (fun _=>rfl) .i64 i (by omega) (by omega) W
theorem rowIx (b n c i : Nat) (hi : i < n) (W : World) :
    (Instr.indexAt 73 (.slice (some ⟨b,0,none⟩) n c) (.int .i64 (i:Int))).run Tryz.prog W = .ok (.pointer (some ⟨b,i*4,none⟩)) W:=by
  rw [ixR b 0 n c i hi W,Nat.zero_add]
set_option maxHeartbeats 4000000 in
theorem madd_any (g n gc i r m rc j : Nat) (q : Nat → Rat) (P : Nat → Prop) (K : Nat) (xv : Value) (x : Rat) (w : World) (hg : w.cell? ⟨g, i, none⟩ = some (.slice (some ⟨r, 0, none⟩) m rc)) (hi : i < n) (hj : j < m)
    (hr:RowP w r m P q K) (hP:P j) (hx:RatIs w xv x K) (hK:1≤K) (hK2:2*K+1≤549755813888) :
    Calls Tryz.prog 114 #[.slice (some ⟨g,0,none⟩) n gc,.int .i64 (i:Nat),.int .i64 (j:Nat),xv] w fun e w'=>∃ w1 s a m c a2 m2 c2,e = .returned (.tuple #[])∧
      w'=st4 w1 r (j*4) (.bool s) (.slice a m c) (.bool false) (.slice a2 m2 c2)∧Below w.heap.size w w1∧RatIs w1 (.agg #[.bool s,.slice a m c,.bool false,.slice a2 m2 c2]) (q j+x) (2*K+1):=by
  obtain⟨s1,a1,n1,c1,a2,n2,c2,rfl,H1⟩:=hx.shape
  clear hx
  have hgl:g<w.heap.size:=by
    rcases Nat.lt_or_ge g w.heap.size with h | h
    · exact h
    · have:w.cell? ⟨g,i,none⟩=none:=by simp [World.cell?,Array.getElem?_eq_none h]
      rw [this] at hg;cases hg
  obtain⟨s2,a3,n3,c3,a4,n4,c4,hr4,hv⟩:=hr.cell j hj
  have KE:=Lib.hid (hv hP)
  have HF:=hr.f
  have hrl:=hr.lt
  have ix1:=fun W=>ixL g 0 n gc i hi W
  have ix2:=fun W=>rowIx r m rc j hj W
  simp only [Nat.zero_add] at ix1
  have HB0:=Lib.hid (boxes1 w (Obj.cells #[.bool s1,.slice a1 n1 c1,.bool false,.slice a2 n2 c2] 92))
  have R4:=Lib.hid hr4
  have HX:=Lib.hid (H1.out.mono HB0.out (Nat.le_refl _)).drew
  have KE:=Lib.hid (KE.out.mono HB0.out (Nat.le_refl _)).drew
  have KW:=Lib.hid HB0.out.drew
  have O1:=Lib.hid (own4_new w _ rfl (.bool s1) (.slice a1 n1 c1) (.bool false) (.slice a2 n2 c2) 92)
  have g0:=bel1 HB0.out hg hgl
  have G0:=Lib.hid hg
  obtain⟨x0,x1,x2,x3,_⟩:=(R4.out.below HB0.out hrl)
  obtain⟨y0,y1,y2,y3,_,_⟩:=O1.out
  clear hr hv hr4 hg
  have HF:=Lib.hid HF
  go_enter Tryz.func114,Tryz.ntmps114
  go_wp2
  go_region_with (first
    | (go_at_call 61;(with_reducible refine (rat_add _ _ (q j) x K _ KE.out HX.out hK hK2).mono ?_);rintro e w2 ⟨r2,rfl,hr2,hb2⟩;obtain⟨s5,a5,n5,c5,a6,n6,c6,rfl,KR⟩:=hr2.shape;clear hr2;have KW:=Lib.hid (KW.out.trans (hb2.mono KW.out.size));obtain⟨z0,z1,z2,z3,_⟩:=R4.out.below KW.out hrl;have zf:=fun o=>(KW.out.frozen (p:=⟨r,o,none⟩) hrl).trans (HF.out o);have g2:=bel1 KW.out G0.out hgl))
  all_goals go_wp2
  all_goals go_end0
  all_goals exact⟨w2,s5,a5,n5,c5,a6,n6,c6,rfl,rfl,KW.out,KR.out⟩
end Go.Proofs.YtgmopcncbpdniaaGreat
namespace Go.Proofs.YtgmopcncbpdniaaGreat
open Go.RowKit
attribute [local go_sem ↓] Go.wp_at_zero Go.wp_at_succ
theorem alloc_setRow (w:World) (z c:Array Value) (t:TypeId):(w.alloc (.cells z t)).setRow w.heap.size c=w.alloc (.cells c t):=by
  unfold World.setRow World.alloc
  simp only [World.mk.injEq,and_true,true_and]
  apply Array.ext
  · simp
  · intro i h1 h2
    simp only [Array.getElem_modify,Array.getElem_push]
    by_cases h:i<w.heap.size
    · have:¬ w.heap.size=i:=by omega
      simp [h,this]
    · have:w.heap.size=i:=by simp at h1;omega
      simp [this]
theorem run_copy_rowS {P : Program} (w : World) (dT sT ty elem : TypeId) (g o dLen dCap : Nat) (a : Addr) (sLen sCap : Nat) (cur : Array Value) (t : TypeId) (cs : List Value) (s n : Nat)
    (hu:P.underlying dT=some (.slice elem)) (hs:(P.info? elem).map (·.size)=some s)
    (hg:w.heap[g]? = some (.cells cur t (0,0))) (hn:n=Nat.min sLen dLen) (hcs:cs.length=n*s)
    (hsrc:∀ j v,cs[j]? = some v→w.cell? (a.add j)=some v) (hfit:o+cs.length≤cur.size) (h1:∀ v ∈ cs,v.oneCell'=true) :
    (Builtin.copy_ #[dT,sT] ty #[.slice (some ⟨g,o,none⟩) dLen dCap,.slice (some a) sLen sCap]).run P w =
      .ok (goInt n) (w.setRow g (cur.toList.take o ++ cs ++ cur.toList.drop (o+cs.length)).toArray):=by
  have hl:=run_loadCells_list (P:=P) w a cs hsrc
  have hst:=run_storeCells_at P g o t cs 0 cur w hg (by simpa using hfit) h1
  rw [hcs] at hl
  cases hq:P.info? elem with
  | none=>simp [hq] at hs
  | some i=>
    have hi:i.size=s:=by simpa [hq] using hs
    simp [Builtin.copy_,run_underlying hu,Builtin.lenOf,Builtin.firstCells,sizeOf,typeInfo,hq,hi,←hn,hl,hst]
theorem RatIs.store1 {w:World} {v:Value} {q:Rat} {m b o:Nat} (h:RatIs w v q m) (u:Value) {v0:Value} (hp:w.cell? ⟨b,o,none⟩=some v0) (hn:NoInt v0):RatIs (w.setCell ⟨b,o,none⟩ u) v q m:=by
  obtain⟨u',d,rfl,m1,m2,m3⟩:=h
  exact⟨u',d,rfl,m1.store1 u hp hn,m2.store1 u hp hn,m3⟩
theorem RowP.storeFar {w:World} {g n K b o:Nat} {P:Nat→Prop} {q:Nat→Rat} (h:RowP w g n P q K) (u:Value) {v0:Value} (hp:w.cell? ⟨b,o,none⟩=some v0) (hn:NoInt v0) (hne:b≠g):RowP (w.setCell ⟨b,o,none⟩ u) g n P q K:=
  ⟨fun j hj=>by
    obtain⟨s,a,m,c,a2,m2,c2,hr,hv⟩:=h.cell j hj
    exact⟨s,a,m,c,a2,m2,c2,⟨(far_set _ _ _ _ _ _ hne).trans hr.c0,(far_set _ _ _ _ _ _ hne).trans hr.c1,(far_set _ _ _ _ _ _ hne).trans hr.c2,(far_set _ _ _ _ _ _ hne).trans hr.c3,by simp only [World.setCell,Array.size_modify];exact hr.lt⟩,fun p=>(hv p).store1 u hp hn⟩,
   fun o'=>by rw [World.frozen?_setCell];exact h.f o',by simp only [World.setCell,Array.size_modify];exact h.lt⟩
end Go.Proofs.YtgmopcncbpdniaaGreat
namespace Go.Proofs.YtgmopcncbpdniaaGreat
def FwdArc (d r:Nat→Nat→Int) (a:Arc):Prop:=a.src=a.pi∧a.dst=a.pj∧a.c=1∧r a.pi a.pj<d a.pi a.pj∧a.most=d a.pi a.pj - r a.pi a.pj
def BwdArc (d r:Nat→Nat→Int) (a:Arc):Prop:=a.src=a.pj∧a.dst=a.pi∧a.c = -1∧0<r a.pi a.pj∧a.most=r a.pi a.pj
structure ArcsOK (n m:Nat) (l:Nat→Arc) (d r:Nat→Nat→Int):Prop where
  sound:∀ k,k<m→(l k).pi<n∧(l k).pj<n∧(l k).pi≠(l k).pj∧(FwdArc d r (l k)∨BwdArc d r (l k))
  fwd:∀ i j,i<n→j<n→r i j<d i j→∃ k,k<m∧(l k).src=i∧(l k).dst=j∧(l k).c=1
  bwd:∀ i j,i<n→j<n→0<r i j→∃ k,k<m∧(l k).src=j∧(l k).dst=i∧(l k).c = -1
theorem ArcsOK.arcsIn {n m:Nat} {l:Nat→Arc} {d r:Nat→Nat→Int} (h:ArcsOK n m l d r):ArcsIn n m l:=fun k hk=>by
  obtain⟨h1,h2,h3,h4⟩:=h.sound k hk
  rcases h4 with ⟨e1,e2,_⟩ | ⟨e1,e2,_⟩
  · rw [e1,e2];exact⟨h1,h2,h3⟩
  · rw [e1,e2];exact⟨h2,h1,fun e=>h3 e.symm⟩
def upd2 (f:Nat→Nat→Int) (i j:Nat) (x:Int):Nat→Nat→Int:=fun a b=>if a=i∧b=j then x else f a b
theorem upd2_self (f:Nat→Nat→Int) (i j:Nat) (x:Int):upd2 f i j x i j=x:=if_pos ⟨rfl,rfl⟩
theorem upd2_ne (f:Nat→Nat→Int) {i j a b:Nat} (x:Int) (h:¬ (a=i∧b=j)):upd2 f i j x a b=f a b:=if_neg h
theorem sumF_add (f g:Nat→Int) (n:Nat):sumF (fun i=>f i+g i) n=sumF f n+sumF g n:=by
  induction n with
  | zero=>rfl
  | succ n ih=>simp only [sumF];rw [ih];omega
theorem sumF_ind (i:Nat) (x:Int) (n:Nat):sumF (fun a=>if a=i then x else 0) n=if i<n then x else 0:=by
  induction n with
  | zero=>simp [sumF]
  | succ n ih=>
    simp only [sumF];rw [ih]
    by_cases h1:i<n
    · rw [if_pos h1,if_neg (by omega),if_pos (by omega)];omega
    · by_cases h2:n=i
      · rw [if_neg h1,if_pos h2,if_pos (by omega)];omega
      · rw [if_neg h1,if_neg h2,if_neg (by omega)];omega
def sum2 (n:Nat) (f:Nat→Nat→Int):Int:=sumF (fun i=>sumF (f i) n) n
def bal (n:Nat) (f:Nat→Nat→Int) (v:Nat):Int:=sumF (fun j=>f v j) n - sumF (fun j=>f j v) n
theorem upd2_row (f:Nat→Nat→Int) (i j:Nat) (x:Int) (a:Nat) (n:Nat) (hj:j<n):sumF (upd2 f i j x a) n=sumF (f a) n+(if a=i then x - f i j else 0):=by
  have e:upd2 f i j x a=fun b=>f a b+(if b=j then (if a=i then x - f i j else 0) else 0):=by
    funext b
    unfold upd2
    by_cases h1:a=i
    · by_cases h2:b=j
      · subst h1;subst h2;simp;omega
      · simp [h1,h2]
    · simp [h1]
  rw [e,sumF_add,sumF_ind,if_pos hj]
theorem upd2_col (f:Nat→Nat→Int) (i j:Nat) (x:Int) (b:Nat) (n:Nat) (hi:i<n):sumF (fun a=>upd2 f i j x a b) n=sumF (fun a=>f a b) n+(if b=j then x - f i j else 0):=by
  have e:(fun a=>upd2 f i j x a b)=fun a=>f a b+(if a=i then (if b=j then x - f i j else 0) else 0):=by
    funext a
    unfold upd2
    by_cases h1:b=j
    · by_cases h2:a=i
      · subst h1;subst h2;simp;omega
      · simp [h1,h2]
    · simp [h1]
  rw [e,sumF_add,sumF_ind,if_pos hi]
theorem upd2_sum (n:Nat) (f:Nat→Nat→Int) (i j:Nat) (x:Int) (hi:i<n) (hj:j<n):sum2 n (upd2 f i j x)=sum2 n f+(x - f i j):=by
  unfold sum2
  have e:(fun a=>sumF (upd2 f i j x a) n)=fun a=>sumF (f a) n+(if a=i then x - f i j else 0):=by
    funext a;exact upd2_row f i j x a n hj
  rw [e,sumF_add,sumF_ind,if_pos hi]
theorem upd2_bal (n:Nat) (f:Nat→Nat→Int) (i j:Nat) (x:Int) (v:Nat) (hi:i<n) (hj:j<n):bal n (upd2 f i j x) v=bal n f v+((if v=i then x - f i j else 0) - (if v=j then x - f i j else 0)):=by
  unfold bal
  have e:=upd2_row f i j x v n hj
  have e1:sumF (fun b=>upd2 f i j x v b) n=sumF (upd2 f i j x v) n:=rfl
  rw [e1,e,upd2_col f i j x v n hi]
  have e2:sumF (fun b=>f v b) n=sumF (f v) n:=rfl
  rw [e2];omega
def along (l:Nat→Arc) (b:Nat→Int) (y:Nat) (mst:Int) (r:Nat→Nat→Int):Nat→Nat→Nat→Int
  | 0=>r
  | s + 1 => upd2 (along l b y mst r s) (l (b (iter (fromF l b) s y)).toNat).pi (l (b (iter (fromF l b) s y)).toNat).pj
      (along l b y mst r s (l (b (iter (fromF l b) s y)).toNat).pi (l (b (iter (fromF l b) s y)).toNat).pj+(l (b (iter (fromF l b) s y)).toNat).c*mst)
structure IsRing (n m:Nat) (l:Nat→Arc) (b:Nat→Int) (y p:Nat):Prop where
  pos:0<p
  back:iter (fromF l b) p y=y
  first:∀ s,0<s→s<p→iter (fromF l b) s y≠y
  arc:∀ s,(b (iter (fromF l b) s y)).toNat<m∧(l (b (iter (fromF l b) s y)).toNat).dst=iter (fromF l b) s y∧(l (b (iter (fromF l b) s y)).toNat).src=iter (fromF l b) (s+1) y
theorem IsRing.apart {n m:Nat} {l:Nat→Arc} {b:Nat→Int} {y p:Nat} (h:IsRing n m l b y p) {s t:Nat} (hst:s<t) (ht:t<p):iter (fromF l b) s y≠iter (fromF l b) t y:=fun e=>by
  have e1:iter (fromF l b) (p - t+t) y=y:=by rw [Nat.sub_add_cancel (by omega)];exact h.back
  rw [iter_add,←e,←iter_add] at e1
  exact h.first (p - t+s) (by omega) (by omega) e1
section
variable {n m:Nat} {l:Nat→Arc} {d r:Nat→Nat→Int} {b:Nat→Int} {y p:Nat} {mst:Int}
theorem along_sum (h:ArcsOK n m l d r) (hr:IsRing n m l b y p):∀ s,sum2 n (along l b y mst r s)=sum2 n r+ringC l b y s*mst
  | 0=>by simp [along,ringC]
  | s+1=>by
    obtain⟨h1,h2,h3,_⟩:=h.sound _ (hr.arc s).1
    simp only [along,ringC]
    rw [upd2_sum n _ _ _ _ h1 h2,along_sum h hr s,Int.add_mul]
    omega
theorem along_bal (h:ArcsOK n m l d r) (hr:IsRing n m l b y p) (v:Nat):∀ s,bal n (along l b y mst r s) v=bal n r v+((if v=iter (fromF l b) s y then mst else 0) - (if v=y then mst else 0))
  | 0=>by simp [along,iter];omega
  | s+1=>by
    obtain⟨h1,h2,h3,h4⟩:=h.sound _ (hr.arc s).1
    obtain⟨_,hd,hs⟩:=hr.arc s
    simp only [along]
    rw [upd2_bal n _ _ _ _ _ h1 h2,along_bal h hr v s]
    rcases h4 with ⟨e1,e2,e3,_⟩ | ⟨e1,e2,e3,_⟩
    · rw [e3,←e1,←e2,hd,hs]
      split <;> split <;> split <;> omega
    · rw [e3,←e1,←e2,hd,hs]
      split <;> split <;> split <;> omega
def Used (l:Nat→Arc) (b:Nat→Int) (y:Nat) (c:Int) (i j s:Nat):Prop:=
  ∃ t,t<s∧(l (b (iter (fromF l b) t y)).toNat).pi=i∧(l (b (iter (fromF l b) t y)).toNat).pj=j∧(l (b (iter (fromF l b) t y)).toNat).c=c
open Classical in
theorem along_val (h:ArcsOK n m l d r) (hr:IsRing n m l b y p) (i j:Nat):∀ s,s≤p→along l b y mst r s i j=r i j+(if Used l b y 1 i j s then mst else 0) - (if Used l b y (-1) i j s then mst else 0)
  | 0,_=>by
    have h0:∀ c,¬ Used l b y c i j 0:=fun c ⟨t,ht,_⟩=>by omega
    rw [if_neg (h0 _),if_neg (h0 _)]
    simp [along]
  | s+1,hsp=>by
    have ih:=along_val h hr i j s (by omega)
    obtain⟨h1,h2,h3,h4⟩:=h.sound _ (hr.arc s).1
    obtain⟨_,hd,hs⟩:=hr.arc s
    simp only [along]
    have grow:∀ c,Used l b y c i j (s+1)↔Used l b y c i j s∨((l (b (iter (fromF l b) s y)).toNat).pi=i∧(l (b (iter (fromF l b) s y)).toNat).pj=j∧(l (b (iter (fromF l b) s y)).toNat).c=c):=by
      intro c
      constructor
      · rintro ⟨t,ht,ho⟩
        rcases Nat.lt_or_ge t s with q | q
        · exact .inl ⟨t,q,ho⟩
        · obtain rfl:t=s:=by omega
          exact .inr ho
      · rintro (⟨t,ht,ho⟩ | ho)
        · exact⟨t,by omega,ho⟩
        · exact⟨s,by omega,ho⟩
    by_cases hij:(l (b (iter (fromF l b) s y)).toNat).pi=i∧(l (b (iter (fromF l b) s y)).toNat).pj=j
    · obtain⟨ei,ej⟩:=hij
      rw [ei,ej,upd2_self,ih]
      rcases h4 with ⟨e1,e2,e3,_⟩ | ⟨e1,e2,e3,_⟩
      · have hn : ¬ Used l b y 1 i j s := fun ⟨t, ht, oi, oj, oc⟩ => by
          obtain⟨_,_,_,g4⟩:=h.sound _ (hr.arc t).1
          rcases g4 with ⟨g1,g2,g3,_⟩ | ⟨g1,g2,g3,_⟩
          · exact hr.apart ht (by omega) (by rw [←(hr.arc t).2.1,←hd,g2,e2,oj,ej])
          · rw [g3] at oc;exact absurd oc (by decide)
        have hy:Used l b y 1 i j (s+1):=(grow 1).2 (.inr ⟨ei,ej,e3⟩)
        have hm:Used l b y (-1) i j (s+1)↔Used l b y (-1) i j s:=by
          rw [grow]
          constructor
          · rintro (q | ⟨_,_,q⟩)
            · exact q
            · rw [e3] at q;exact absurd q (by decide)
          · exact .inl
        rw [if_neg hn,if_pos hy,e3]
        simp only [hm]
        split <;> omega
      · have hn : ¬ Used l b y (-1) i j s := fun ⟨t, ht, oi, oj, oc⟩ => by
          obtain⟨_,_,_,g4⟩:=h.sound _ (hr.arc t).1
          rcases g4 with ⟨g1,g2,g3,_⟩ | ⟨g1,g2,g3,_⟩
          · rw [g3] at oc;exact absurd oc (by decide)
          · exact hr.apart ht (by omega) (by rw [←(hr.arc t).2.1,←hd,g2,e2,oi,ei])
        have hy:Used l b y (-1) i j (s+1):=(grow (-1)).2 (.inr ⟨ei,ej,e3⟩)
        have hm:Used l b y 1 i j (s+1)↔Used l b y 1 i j s:=by
          rw [grow]
          constructor
          · rintro (q | ⟨_,_,q⟩)
            · exact q
            · rw [e3] at q;exact absurd q (by decide)
          · exact .inl
        rw [if_neg hn,if_pos hy,e3]
        simp only [hm]
        split <;> omega
    · rw [upd2_ne _ _ (fun e=>hij ⟨e.1.symm,e.2.symm⟩),ih]
      have hm:∀ c,Used l b y c i j (s+1)↔Used l b y c i j s:=fun c=>by
        rw [grow]
        constructor
        · rintro (q | ⟨q1,q2,_⟩)
          · exact q
          · exact absurd ⟨q1,q2⟩ hij
        · exact .inl
      simp only [hm]
theorem along_range (h : ArcsOK n m l d r) (hr : IsRing n m l b y p) (h0 : 0 ≤ mst) (hmst : ∀ s, s < p → mst ≤ (l (b (iter (fromF l b) s y)).toNat).most) (i j : Nat) (hij : 0 ≤ r i j ∧ r i j ≤ d i j) :
    0≤along l b y mst r p i j∧along l b y mst r p i j≤d i j:=by
  classical
  have hv:=along_val (mst:=mst) h hr i j p (Nat.le_refl _)
  have hf:Used l b y 1 i j p→mst≤d i j - r i j:=fun ⟨t,ht,oi,oj,oc⟩=>by
    have:=hmst t ht
    obtain⟨_,_,_,g4⟩:=h.sound _ (hr.arc t).1
    rcases g4 with ⟨_,_,_,_,g5⟩ | ⟨_,_,g3,_⟩
    · rw [g5,oi,oj] at this;exact this
    · rw [g3] at oc;exact absurd oc (by decide)
  have hb:Used l b y (-1) i j p→mst≤r i j:=fun ⟨t,ht,oi,oj,oc⟩=>by
    have:=hmst t ht
    obtain⟨_,_,_,g4⟩:=h.sound _ (hr.arc t).1
    rcases g4 with ⟨_,_,g3,_⟩ | ⟨_,_,_,_,g5⟩
    · rw [g3] at oc;exact absurd oc (by decide)
    · rw [g5,oi,oj] at this;exact this
  rw [hv]
  by_cases u1:Used l b y 1 i j p
  · have:=hf u1
    by_cases u2:Used l b y (-1) i j p
    · have:=hb u2;rw [if_pos u1,if_pos u2];omega
    · rw [if_pos u1,if_neg u2];omega
  · by_cases u2:Used l b y (-1) i j p
    · have:=hb u2;rw [if_neg u1,if_pos u2];omega
    · rw [if_neg u1,if_neg u2];omega
end
end Go.Proofs.YtgmopcncbpdniaaGreat
namespace Go.Proofs.YtgmopcncbpdniaaGreat
open Go.RowKit
theorem ext_lt {P:Nat→Prop} {k:Nat} (h:∀ i,i<k→P i) (hk:P k):∀ i,i<k+1→P i:=fun i hi=>by
  rcases Nat.lt_or_ge i k with q | q
  · exact h i q
  · obtain rfl:i=k:=by omega
    exact hk
theorem bool_false {r:Bool} {P:Prop} (h:r=true↔P) (hn:¬ P):r=false:=by
  cases r
  · rfl
  · exact absurd (h.1 rfl) hn
def Debts (n:Nat) (m:Nat→Nat) (f:Nat→Nat→Int):Prop:=1≤n∧n≤8∧∀ i,i<n→m i=n∧f i i=0∧∀ j,j<n→0≤f i j∧f i j≤1000
end Go.Proofs.YtgmopcncbpdniaaGreat
