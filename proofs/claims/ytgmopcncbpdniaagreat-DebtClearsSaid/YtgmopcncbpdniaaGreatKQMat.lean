import Derived.Test.YtgmopcncbpdniaaGreatKShelf
import Derived.Test.YtgmopcncbpdniaaGreatKRefN
import Derived.Test.YtgmopcncbpdniaaGreatKPlainC
import Derived.Test.YtgmopcncbpdniaaGreatKSol
import Derived.Test.YtgmopcncbpdniaaGreatKPlainT
import Derived.Test.YtgmopcncbpdniaaGreatKInt5
import Derived.Test.YtgmopcncbpdniaaGreatKRMat
set_option linter.unusedVariables false
set_option linter.unusedSimpArgs false
namespace Go.Proofs.YtgmopcncbpdniaaGreat
open Go.RowKit
attribute [local go_sem ↓] Go.wp_at_zero Go.wp_at_succ
theorem infoZQ:(Tryz.prog.info? 40).map (fun i=>(i.zero,i.size,i.bytes))=some (some (.agg #[.bool false,.slice none 0 0,.bool false,.slice none 0 0]),4,64):=by kernel_rfl
theorem kindz_made (w:World) (t:TypeId) (n c:Nat):KindZ (w.alloc (.cells #[] t)) (.slice (some ⟨w.heap.size,0,none⟩) n c):=fun g hg o x hx=>by
 have:w.heap.size=g:=Option.some.inj hg;subst this;rw [cell_of (t:=t) (fr:=(0,0)) (heap_alloc_new w _)] at hx;simp at hx
theorem qrow_start (w:World) (p d:Nat->Int) (K:Nat):QRow (w.alloc (.cells #[] 40)) w.heap.size (.slice (some ⟨w.heap.size,0,none⟩) 0 0) 0 p d K []:=
 QRow.nil _ _ _ _ _ _ (World.ownsRow_made (e:=40) (base:=w.heap.size) (size:=4) w #[] 0 jl (by unfold maxLen;omega) rfl) (kindz_made _ _ _ _)
def qN (q:Nat->Rat) (j:Nat):Int:=(q j).num
def qD (q:Nat->Rat) (j:Nat):Int:=((q j).den:Nat)
set_option maxHeartbeats 2000000 in
set_option maxRecDepth 100000 in
theorem qs_any (v : Value) (n : Nat) (q : Nat -> Rat) (ss : Nat -> ByteArray) (w : World) (hv : Strs w v n ss) (hn : n <= 1000) (hq : TxtQs n q ss) :
  Calls Tryz.prog 33 #[v] w fun e w'=>∃ va vk xs,e = .returned (.slice va n vk)/\QRow w' w.heap.size (.slice va n vk) n (qN q) (qD q) 1000 xs/\Below w.heap.size w w':=by
 obtain⟨a,b,o,c,rfl,hs⟩:=hv;obtain⟨i0,hi,hz0,hz1,hz2⟩:=info_parts infoZQ;have HS:=jj hs;have HQ:=jj hq;have KW0:=jj ((jr w).alloc jl (.cells #[] 40));have R0:=jj (qrow_start w (qN q) (qD q) 1000);clear hs hq;go_enter Tryz.func33,Tryz.ntmps33;go_wp2;go_loopw [3,4] (fun v3 v4 wr=>∃ k:Nat,k<=n/\v4 = .int .i64 (k:Nat)/\∃ va vk xs,v3 = .slice va k vk/\Hid (QRow wr w.heap.size (.slice va k vk) k (qN q) (qD q) 1000 xs)/\Hid (Below w.heap.size w wr)) (fun _ v4 _=>n - (intOf v4).toNat)
 case atStart=>exact⟨0,by omega,rfl,_,0,[],rfl,R0,KW0⟩
 case round=>
  clear R0 KW0;obtain⟨k,hk,rfl,va,vk,xs,rfl,R,KW⟩:=hrel;by_cases h:k<n
  ·have x0:=(HS.out.mono KW.out jl).cell k h;have ix:=fun W=>ixN HS.out k c h W
   go_wp2_with (first
    | (go_at_call 64;(with_reducible refine (of_any _ (q k) _ (HQ.out.txt k h)).mono ?_);rintro e w2 ⟨s2,a2,n2,c2,t2,b2,l2,k2,rfl,Q2,hb2⟩;have KW2:=jj ((jb KW.out hb2.out).alloc (jb KW.out hb2.out).size (.cells #[.bool s2,.slice a2 n2 c2,.bool t2,.slice b2 l2 k2] 40));have R2:=jj ((R.out.below hb2.out).alloc (.cells #[.bool s2,.slice a2 n2 c2,.bool t2,.slice b2 l2 k2] 40));have NEW:=jj (own4_rd (own4_new w2 w2.heap.size rfl (.bool s2) (.slice a2 n2 c2) (.bool t2) (.slice b2 l2 k2) 40));have Q3:=jj (Q2.out.alloc (.cells #[.bool s2,.slice a2 n2 c2,.bool t2,.slice b2 l2 k2] 40));have HA3:Hid (w.heap.size<=(w2.alloc (.cells #[.bool s2,.slice a2 n2 c2,.bool t2,.slice b2 l2 k2] 40)).heap.size):=jj KW2.out.size)
    | (at_builtin;go_loud (refine wpList_append_kindz rfl (.tmp 12) (.tmp 18) 32 rfl w.heap.size 40 i0 (.agg #[.bool false,.slice none 0 0,.bool false,.slice none 0 0]) 4 64 Tryz.underlying32 hi hz0 hz1 hz2 rfl (by decide) (.slice va k vk) k xs rfl R2.out.own R2.out.kind (noInt_4 _ _ _ _ _ _ _ _) ⟨w2.heap.size,0,none⟩ 1 1 [.bool s2,.slice a2 n2 c2,.bool t2,.slice b2 l2 k2] rfl rfl (cells4' NEW.out) (one4' _ _ _ _ rfl rfl rfl rfl) (noInt_4 _ _ _ _ _ _ _ _) (by unfold maxLen;omega) (by omega) HA3.out (by omega) ?_;intro v' w7 hown hgrow hblk hkind;obtain⟨va',vk',rfl⟩:=own_shape hown;have HOWN:=jj hown;have HGROW:=jj hgrow;have HKIND:=jj hkind;clear hown hgrow hblk hkind)))
   go_roundw
   case rel=>exact⟨k+1,by omega,by go_num,va',vk',_,rfl,jj (R2.out.push Q3.out rfl rfl HGROW.out HOWN.out HKIND.out),jj (KW2.out.grown HGROW.out HA3.out (fun kk e=>(R2.out.own.lt kk e).1))⟩
   case measure=>simp [intOf];omega
  ·obtain rfl:n=k:=by omega
   go_wp2;go_ret;exact⟨va,vk,xs,rfl,R.out,KW.out⟩
theorem Strs.mono {w w':World} {v:Value} {n B:Nat} {ss:Nat->ByteArray} (h:Strs w v n ss) (hb:Below B w w') (hB:w.heap.size<=B):Strs w' v n ss:=Sl.mono h hb hB
end Go.Proofs.YtgmopcncbpdniaaGreat
namespace Go.Proofs.YtgmopcncbpdniaaGreat
open Go.RowKit
theorem QV.keep {w w':World} {u v:Value} {q:Rat} {m:Nat} (h:QV w u q m) (hk:KindZ w v) (hg:w.grownBy w' v.ownBlock):QV w' u q m:=by
 obtain⟨p,d,h1,h2⟩:=h;exact⟨p,d,h1.keep hk hg,h2⟩
structure VSl (w:World) (v:Value) (n:Nat) (q:Nat->Rat) (K:Nat):Prop where
 val:∃ g cap,v = .slice (some ⟨g,0,none⟩) n cap/\n<=cap/\g<w.heap.size/\∀ j,j<n->∃ s a m c t a2 m2 c2,w.cell? ⟨g,j*4,none⟩=some (.bool s)/\w.cell? ⟨g,j*4+1,none⟩=some (.slice a m c)/\w.cell? ⟨g,j*4+2,none⟩=some (.bool t)/\w.cell? ⟨g,j*4+3,none⟩=some (.slice a2 m2 c2)/\QV w (.agg #[.bool s,.slice a m c,.bool t,.slice a2 m2 c2]) (q j) K
variable {w w':World} {base r K:Nat} {v:Value} {q:Nat->Rat} {xs:List Value}
variable {n:Nat}
theorem VSl.mono {B:Nat} (h:VSl w v n q K) (hb:Below B w w') (hB:w.heap.size<=B):VSl w' v n q K:=by
 obtain⟨g,cap,rfl,h1,h2,h3⟩:=h.val;refine⟨g,cap,rfl,h1,jm h2 hb.size,fun j hj=>?_⟩;obtain⟨s,a,m,c,t,a2,m2,c2,k1,k2,k3,k4,k5⟩:=h3 j hj;have k:∀ i,w'.cell? ⟨g,i,none⟩=w.cell? ⟨g,i,none⟩:=fun i=>hb.cell (p:=⟨g,i,none⟩) (jm h2 hB)
 exact⟨s,a,m,c,t,a2,m2,c2,(k _).trans k1,(k _).trans k2,(k _).trans k3,(k _).trans k4,k5.mono hb hB⟩
theorem VSl.of (h:QSl w v n (qN q) (qD q) K):VSl w v n q K:=by
 obtain⟨g,cap,rfl,h1,h2,h3⟩:=h.val;refine⟨g,cap,rfl,h1,h2,fun j hj=>?_⟩;obtain⟨s,a,m,c,t,a2,m2,c2,k1,k2,k3,k4,k5⟩:=h3 j hj;exact⟨s,a,m,c,t,a2,m2,c2,k1,k2,k3,k4,QV.of k5⟩
theorem VSl.congr {q':Nat->Rat} (h:VSl w v n q K) (e:∀ j,j<n->q j=q' j):VSl w v n q' K:=by
 obtain⟨g,cap,rfl,h1,h2,h3⟩:=h.val;refine⟨g,cap,rfl,h1,h2,fun j hj=>?_⟩;rw [<-e j hj];exact h3 j hj
end Go.Proofs.YtgmopcncbpdniaaGreat
namespace Go.Proofs.YtgmopcncbpdniaaGreat
def ZeroQ (n:Nat) (M:Nat->Nat->Rat) (y:Nat->Rat):Prop:=∀ i,i<n->sumQ (fun j=>M i j*y j) (n+1)=0
structure GJ (n c:Nat) (M0 M:Nat->Nat->Rat):Prop where
 zero:∀ i j,i<n->j<c->i≠j->M i j=0
 piv:∀ j,j<c->M j j≠0
 eqv:∀ y,ZeroQ n M y↔ZeroQ n M0 y
theorem GJ.start (n:Nat) (M:Nat->Nat->Rat):GJ n 0 M M:=⟨fun i j _ h=>by omega,fun j h=>by omega,fun y=>Iff.rfl⟩
theorem GJ.sing {n c:Nat} {M0 M:Nat->Nat->Rat} (h:GJ n c M0 M) (hc:c<n) (hz:∀ i,c<=i->i<n->M i c=0):∃ y,ZeroQ n M0 y/\y n=0/\y c=1:=by
 refine⟨fun j=>if j=c then 1 else if j<c then -(M j c / M j j) else 0,(h.eqv _).1 (fun i hi=>?_),?_,by simp⟩
 ·by_cases hic:i<c
  ·have e : ∀ j, j < n + 1 -> M i j * (if j = c then 1 else if j < c then -(M j c / M j j) else 0) = (if j = c then M i c else 0) + (if j = i then -M i c else 0) := fun j hj => by
    by_cases e1:j=c
    ·subst e1;have:¬ j=i:=by omega
     simp [this];grind
    ·by_cases e2:j<c
     ·by_cases e3:j=i
      ·subst e3;simp only [e1,e2,if_true,if_false];have:=h.piv j e2;grind
      ·have:=h.zero i j hi e2 (fun q=>e3 q.symm);simp [e1,e2,e3,this];grind
     ·have e3:¬ j=i:=by omega
      simp [e1,e2,e3];grind
   rw [sumQ_congr _ e,sumQ_add,sumQ_one _ c _ (by omega) (fun j _ hj=>by simp [hj]),sumQ_one _ i _ (by omega) (fun j _ hj=>by simp [hj])];simp;grind
  ·refine sumQ_eq_zero _ (fun j hj=>?_);by_cases e1:j=c
   ·subst e1;rw [hz i (by omega) hi];simp
   ·by_cases e2:j<c
    ·rw [h.zero i j hi e2 (by omega)];simp
    ·simp [e1,e2]
 ·have:¬ n=c:=by omega
  have:¬ n<c:=by omega
  simp [*]
def swapQ (M:Nat->Nat->Rat) (c a:Nat) (i:Nat):Nat->Rat:=if i=c then M a else if i=a then M c else M i
theorem GJ.swap {n c a:Nat} {M0 M:Nat->Nat->Rat} (h:GJ n c M0 M) (ha:c<=a) (hn:a<n):GJ n c M0 (swapQ M c a):=by
 refine⟨fun i j hi hj hij=>?_,fun j hj=>?_,fun y=>?_⟩
 ·unfold swapQ;split
  ·exact h.zero a j hn hj (by omega)
  ·split
   ·exact h.zero c j (by omega) hj (by omega)
   ·exact h.zero i j hi hj hij
 ·unfold swapQ;rw [if_neg (by omega),if_neg (by omega)];exact h.piv j hj
 ·rw [<-h.eqv y];unfold ZeroQ swapQ;constructor
  ·intro g i hi;by_cases e1:i=c
   ·subst e1;by_cases e2:a=i
    ·subst e2;have:=g a hn;simpa using this
    ·have:=g a hn;simpa [e2] using this
   ·by_cases e2:i=a
    ·subst e2;have:=g c (by omega);simpa using this
    ·have:=g i hi;simpa [e1,e2] using this
  ·intro g i hi;split
   ·exact g a hn
   ·split
    ·exact g c (by omega)
    ·exact g i hi
def clrM (c i j:Nat) (M:Nat->Nat->Rat) (r l:Nat):Rat:=if (r<i/\r≠c)\/(r=i/\i≠c/\l<j) then M r l - M r c / M c c*M c l else M r l
theorem GJ.clear {n c:Nat} {M0 M:Nat->Nat->Rat} (h:GJ n c M0 M) (hc:c<n) (hp:M c c≠0):GJ n (c+1) M0 (clrM c n 0 M):=by
 have hrow:clrM c n 0 M c=M c:=by
  funext l;unfold clrM;rw [if_neg (by omega)]
 have hoth:∀ i,i<n->i≠c->∀ l,clrM c n 0 M i l=M i l - M i c / M c c*M c l:=fun i hi hic l=>by
  unfold clrM;rw [if_pos (.inl ⟨hi,hic⟩)]
 have hcz:∀ j,j<c->M c j=0:=fun j hj=>h.zero c j hc hj (by omega)
 refine⟨fun i j hi hj hij=>?_,fun j hj=>?_,fun y=>?_⟩
 ·by_cases e:i=c
  ·subst e;rw [hrow];exact hcz j (by omega)
  ·rw [hoth i hi e];by_cases e2:j=c
   ·subst e2;grind
   ·rw [hcz j (by omega),h.zero i j hi (by omega) hij];grind
 ·by_cases e:j=c
  ·subst e;rw [hrow];exact hp
  ·rw [hoth j (by omega) e,hcz j (by omega)];have:=h.piv j (by omega);grind
 ·rw [<-h.eqv y]
  have hs:∀ i,i<n->i≠c->sumQ (fun l=>clrM c n 0 M i l*y l) (n+1)=sumQ (fun l=>M i l*y l) (n+1) - M i c / M c c*sumQ (fun l=>M c l*y l) (n+1):=fun i hi hic=>by
   rw [<-sumQ_mul,<-sumQ_sub];exact sumQ_congr _ (fun l _=>by rw [hoth i hi hic];grind)
  constructor
  ·intro g i hi;have gc:=g c hc;simp only [hrow] at gc;by_cases e:i=c
   ·subst e;exact gc
   ·have:=g i hi;rw [hs i hi e,gc] at this;grind
  ·intro g i hi;have gc:=g c hc;by_cases e:i=c
   ·subst e;simp only [hrow];exact gc
   ·rw [hs i hi e,gc,g i hi];grind
theorem GJ.sol {n:Nat} {M0 M:Nat->Nat->Rat} (h:GJ n n M0 M) (x:Nat->Rat):(∀ i,i<n->sumQ (fun j=>M0 i j*x j) n=M0 i n)↔∀ i,i<n->x i=M i n / M i i:=by
 have hx:∀ N:Nat->Nat->Rat,(∀ i,i<n->sumQ (fun j=>N i j*x j) n=N i n)↔ZeroQ n N (fun j=>if j<n then x j else -1):=fun N=>by
  have e:∀ i,sumQ (fun j=>N i j*(if j<n then x j else -1)) (n+1)=sumQ (fun j=>N i j*x j) n - N i n:=fun i=>by
   show sumQ _ n+_=_;rw [sumQ_congr (g:=fun j=>N i j*x j) n (fun j hj=>by simp [hj])];simp;grind
  unfold ZeroQ;constructor
  ·intro g i hi;rw [e i,g i hi];grind
  ·intro g i hi;have:=g i hi;rw [e i] at this;grind
 rw [hx M0,<-h.eqv,<-hx M]
 have hd:∀ i,i<n->sumQ (fun j=>M i j*x j) n=M i i*x i:=fun i hi=>
  sumQ_one _ i n hi (fun j hj hji=>by rw [h.zero i j hi hj (fun e=>hji e.symm)];simp)
 constructor
 ·intro g i hi;have h1:=g i hi;rw [hd i hi] at h1;have:=h.piv i hi;grind
 ·intro g i hi;rw [hd i hi,g i hi];have:=h.piv i hi;grind
open Go.RowKit
theorem ZIs.atR {w : World} {v : Value} {z : Int} {m g o : Nat} {s t : Bool} {a a2 : Option Addr} {n c n2 c2 : Nat} (h : ZIs w v z m) (u0 u1 u2 u3 : Value) (hr : Rd4 w g o (.bool s) (.slice a n c) (.bool t) (.slice a2 n2 c2)) :
  ZIs (st4 w g o u0 u1 u2 u3) v z m:=
 (((h.setCell u0 hr.c0 (noInt_bool _)).setCell u1 (off_set (by omega) hr.c1) (noInt_slice _ _ _)).setCell u2 (off_set (by omega) (off_set (by omega) hr.c2)) (noInt_bool _)).setCell u3 (off_set (by omega) (off_set (by omega) (off_set (by omega) hr.c3))) (noInt_slice _ _ _)
theorem QV.atR {w : World} {v : Value} {q : Rat} {m g o : Nat} {s t : Bool} {a a2 : Option Addr} {n c n2 c2 : Nat} (h : QV w v q m) (u0 u1 u2 u3 : Value) (hr : Rd4 w g o (.bool s) (.slice a n c) (.bool t) (.slice a2 n2 c2)) :
  QV (st4 w g o u0 u1 u2 u3) v q m:=by
 obtain⟨p,d,⟨s1,v1,s2,v2,h0,h1,h2,h3⟩,e⟩:=h;exact⟨p,d,⟨s1,v1,s2,v2,h0,h1.atR _ _ _ _ hr,h2.atR _ _ _ _ hr,h3⟩,e⟩
theorem QV.store1 {w:World} {v:Value} {q:Rat} {m:Nat} {p:Addr} {v0:Value} (h:QV w v q m) (u:Value) (hp:w.cell? p=some v0) (hn:NoInt v0):QV (w.setCell p u) v q m:=by
 obtain⟨x,d,⟨s1,v1,s2,v2,h0,h1,h2,h3⟩,e⟩:=h;exact⟨x,d,⟨s1,v1,s2,v2,h0,h1.setCell u hp hn,h2.setCell u hp hn,h3⟩,e⟩
structure RowV (w:World) (g n:Nat) (P:Nat->Prop) (q:Nat->Rat) (K:Nat->Nat):Prop where
 cell:∀ j,j<n->∃ s a m c t a2 m2 c2,Rd4 w g (j*4) (.bool s) (.slice a m c) (.bool t) (.slice a2 m2 c2)/\(P j->QV w (.agg #[.bool s,.slice a m c,.bool t,.slice a2 m2 c2]) (q j) (K j))
 f:∀ o,w.frozen? ⟨g,o,none⟩=false
 lt:g<w.heap.size
section
variable {w w':World} {g n B i o:Nat} {P:Nat->Prop} {q:Nat->Rat} {K:Nat->Nat}
theorem RowV.below (h:RowV w g n P q K) (hb:Below B w w') (hB:w.heap.size<=B):RowV w' g n P q K:=
  ⟨fun j hj=>by
    obtain⟨s,a,m,c,t,a2,m2,c2,h1,h2⟩:=h.cell j hj;exact⟨s,a,m,c,t,a2,m2,c2,h1.below hb (jm h1.lt hB),fun p=>(h2 p).mono hb hB⟩,
   fun o=>(hb.frozen (p:=⟨g,o,none⟩) (jm h.lt hB)).trans (h.f o),jm h.lt hb.size⟩
theorem RowV.alloc (h:RowV w g n P q K) (o:Obj):RowV (w.alloc o) g n P q K:=h.below ((jr w).alloc jl o) jl
def updN (K:Nat->Nat) (i x:Nat):Nat->Nat:=fun j=>if j=i then x else K j
theorem RowV.set (h : RowV w g n P q K) (hi : i < n) (ho : o = i * 4) {s t : Bool} {a a2 : Option Addr} {m c m2 c2 k : Nat} {x : Rat}
  (hx:QV w (.agg #[.bool s,.slice a m c,.bool t,.slice a2 m2 c2]) x k) :
  RowV (st4 w g o (.bool s) (.slice a m c) (.bool t) (.slice a2 m2 c2)) g n (fun j=>j=i\/P j) (updQ q i x) (updN K i k):=by
 subst ho;obtain⟨s',a',m',c',t',a2',m2',c2',hr,hv⟩:=h.cell i hi;refine⟨fun j hj=>?_,fun o=>by rw [frozen_st4];exact h.f o,by rw [size_st4];exact h.lt⟩;by_cases e:j=i
 ·subst e;exact⟨s,a,m,c,t,a2,m2,c2,hr.anew _ _ _ _,fun _=>by rw [updQ,if_pos rfl,updN,if_pos rfl];exact hx.atR _ _ _ _ hr⟩
 ·obtain⟨s1,a1,m1,c1,t1,b1,m3,c3,hr1,hv1⟩:=h.cell j hj;exact⟨s1,a1,m1,c1,t1,b1,m3,c3,hr1.off _ _ _ _ (by omega),fun p=>by rw [updQ,if_neg e,updN,if_neg e];exact (hv1 (p.resolve_left e)).atR _ _ _ _ hr⟩
theorem RowV.congr {P':Nat->Prop} {q':Nat->Rat} {K':Nat->Nat} (h:RowV w g n P q K) (hP:∀ j,j<n->P' j->P j/\q j=q' j/\K j<=K' j):RowV w g n P' q' K':=
 ⟨fun j hj=>by
  obtain⟨s,a,m,c,t,a2,m2,c2,hr,hv⟩:=h.cell j hj;exact⟨s,a,m,c,t,a2,m2,c2,hr,fun p=>by rw [<-(hP j hj p).2.1];exact (hv (hP j hj p).1).le (hP j hj p).2.2⟩,h.f,h.lt⟩
theorem RowV.far4 {b o : Nat} {s t : Bool} {a a2 : Option Addr} {m c m2 c2 : Nat} (h : RowV w g n P q K) (u0 u1 u2 u3 : Value)
    (hr:Rd4 w b o (.bool s) (.slice a m c) (.bool t) (.slice a2 m2 c2)) (hne:b≠g):RowV (st4 w b o u0 u1 u2 u3) g n P q K:=
  ⟨fun j hj=>by
    obtain⟨s',a',m',c',t',a2',m2',c2',h1,h2⟩:=h.cell j hj;exact⟨s',a',m',c',t',a2',m2',c2',h1.far _ _ _ _ hne,fun p=>(h2 p).atR _ _ _ _ hr⟩,
   fun o'=>by rw [frozen_st4];exact h.f o',by rw [size_st4];exact h.lt⟩
theorem RowV.storeFar {b o:Nat} (h:RowV w g n P q K) (u:Value) {v0:Value} (hp:w.cell? ⟨b,o,none⟩=some v0) (hn:NoInt v0) (hne:b≠g):RowV (w.setCell ⟨b,o,none⟩ u) g n P q K:=
  ⟨fun j hj=>by
    obtain⟨s,a,m,c,t,a2,m2,c2,hr,hv⟩:=h.cell j hj;exact⟨s,a,m,c,t,a2,m2,c2,⟨(far_set _ _ _ _ _ _ hne).trans hr.c0,(far_set _ _ _ _ _ _ hne).trans hr.c1,(far_set _ _ _ _ _ _ hne).trans hr.c2,(far_set _ _ _ _ _ _ hne).trans hr.c3,by simp only [World.setCell,Array.size_modify];exact hr.lt⟩,fun p=>(hv p).store1 u hp hn⟩,
   fun o'=>by rw [World.frozen?_setCell];exact h.f o',by simp only [World.setCell,Array.size_modify];exact h.lt⟩
theorem RowV.kept {v:Value} (h:RowV w g n P q K) (hk:KindZ w v) (hg:w.grownBy w' v.ownBlock) (hne:some g≠v.ownBlock):RowV w' g n P q K:=
  ⟨fun j hj=>by
    obtain⟨s,a,m,c,t,a2,m2,c2,hr,hv⟩:=h.cell j hj;exact⟨s,a,m,c,t,a2,m2,c2,rd4_keep hr hg hne,fun p=>(hv p).keep hk hg⟩,
   fun o'=>(World.frozen?_of_block (hg.block g h.lt hne)).trans (h.f o'),jm h.lt hg.size⟩
theorem RowV.made (w:World) (n:Nat) (q:Nat->Rat) (K:Nat->Nat):RowV (w.alloc (.cells (madeCells zR (n*4)) 40)) w.heap.size n (fun _=>False) q K:=by
 have h:(w.alloc (.cells (madeCells zR (n*4)) 40)).rowIs w.heap.size 40 (n*4) (repR zero4 0):=
  ⟨madeCells zR (n*4),by unfold World.alloc;simp,size_madeCells _ _,fun i hi=>by rw [made_zero4 _ _ hi];unfold repR;rw [if_neg (by omega)]⟩
 have e:∀ j r,r<4->j<n->repR zero4 0 (j*4+r)=pat4 (.bool false) (.slice none 0 0) (.bool false) (.slice none 0 0) r:=fun j r hr hj=>by
  unfold repR;rw [if_neg (by omega)];unfold zero4 pat4;rw [show (j*4+r) % 4=r % 4 by omega]
 refine⟨fun j hj=>⟨false,none,0,0,false,none,0,0,⟨?_,?_,?_,?_,h.lt⟩,fun p=>p.elim⟩,fun o=>h.frozen o,h.lt⟩
 ·rw [h.cell (i:=j*4) (by omega)];congr 1;exact e j 0 (by omega) hj
 ·rw [h.cell (i:=j*4+1) (by omega)];congr 1;exact e j 1 (by omega) hj
 ·rw [h.cell (i:=j*4+2) (by omega)];congr 1;exact e j 2 (by omega) hj
 ·rw [h.cell (i:=j*4+3) (by omega)];congr 1;exact e j 3 (by omega) hj
end
structure QMat (w:World) (B g k cols:Nat) (rb rc:Nat->Nat) (Q:Nat->Nat->Rat) (K:Nat->Nat->Nat):Prop where
 hdr:∀ i,i<k->w.cell? ⟨g,i,none⟩=some (.slice (some ⟨rb i,0,none⟩) cols (rc i))
 hf:∀ o,w.frozen? ⟨g,o,none⟩=false
 gB:B<=g
 gl:g<w.heap.size
 row:∀ i,i<k->RowV w (rb i) cols (fun _=>True) (Q i) (K i)
 rB:∀ i,i<k->B<=rb i
 ne:∀ i,i<k->rb i≠g
 apart:∀ i j,i<k->j<k->i≠j->rb i≠rb j
def updK (K:Nat->Nat->Nat) (i j x:Nat) (r c:Nat):Nat:=if r=i/\c=j then x else K r c
section
variable {w w':World} {B g k cols B':Nat} {rb rc:Nat->Nat} {Q:Nat->Nat->Rat} {K:Nat->Nat->Nat}
theorem QMat.below (h:QMat w B g k cols rb rc Q K) (hb:Below B' w w') (hB:w.heap.size<=B'):QMat w' B g k cols rb rc Q K:=
  ⟨fun i hi=>bel1 hb (h.hdr i hi) (jm h.gl hB),fun o=>(hb.frozen (p:=⟨g,o,none⟩) (jm h.gl hB)).trans (h.hf o),h.gB,jm h.gl hb.size,
   fun i hi=>(h.row i hi).below hb hB,h.rB,h.ne,h.apart⟩
theorem QMat.drew (h:QMat w B g k cols rb rc Q K):QMat w.drew B g k cols rb rc Q K:=h.below ((Drawn.of w 1).below w.heap.size) jl
theorem QMat.congr {Q':Nat->Nat->Rat} {K':Nat->Nat->Nat} (h:QMat w B g k cols rb rc Q K) (e:∀ i j,i<k->j<cols->Q i j=Q' i j/\K i j<=K' i j):QMat w B g k cols rb rc Q' K':=
 ⟨h.hdr,h.hf,h.gB,h.gl,fun i hi=>(h.row i hi).congr (fun j hj _=>⟨trivial,e i j hi hj⟩),h.rB,h.ne,h.apart⟩
theorem QMat.set {i j k' : Nat} {x : Rat} {s t : Bool} {a a2 : Option Addr} {m c m2 c2 : Nat} (h : QMat w B g k cols rb rc Q K) (hi : i < k) (hj : j < cols)
  (hx:QV w (.agg #[.bool s,.slice a m c,.bool t,.slice a2 m2 c2]) x k') :
  QMat (st4 w (rb i) (j*4) (.bool s) (.slice a m c) (.bool t) (.slice a2 m2 c2)) B g k cols rb rc (updM Q i j x) (updK K i j k'):=by
 obtain⟨s',a',m',c',t',a2',m2',c2',hr,_⟩:=(h.row i hi).cell j hj;refine⟨fun r hr2=>(Go.Proofs.YtgmopcncbpdniaaGreat.far4 _ _ _ _ (h.ne i hi)).trans (h.hdr r hr2),fun o=>by rw [frozen_st4];exact h.hf o,h.gB,by rw [size_st4];exact h.gl,fun r hr2=>?_,h.rB,h.ne,h.apart⟩;by_cases e:r=i
 ·subst e;refine ((h.row r hr2).set hj rfl hx).congr (fun l hl _=>?_);by_cases e2:l=j
  ·exact⟨.inl e2,by simp [updQ,updM,e2],by simp [updN,updK,e2]⟩
  ·exact⟨.inr trivial,by simp [updQ,updM,e2],by simp [updN,updK,e2]⟩
 ·refine ((h.row r hr2).far4 _ _ _ _ hr (h.apart i r hi hr2 (fun q=>e q.symm))).congr (fun l hl _=>⟨trivial,?_,?_⟩)
  ·simp [updM,e]
  ·simp [updK,e]
theorem QMat.at_ (h : QMat w B g k cols rb rc Q K) {i j : Nat} (hi : i < k) (hj : j < cols) :
  ∃ s a m c t a2 m2 c2,Rd4 w (rb i) (j*4) (.bool s) (.slice a m c) (.bool t) (.slice a2 m2 c2)/\QV w (.agg #[.bool s,.slice a m c,.bool t,.slice a2 m2 c2]) (Q i j) (K i j):=by
 obtain⟨s,a,m,c,t,a2,m2,c2,h1,h2⟩:=(h.row i hi).cell j hj;exact⟨s,a,m,c,t,a2,m2,c2,h1,h2 trivial⟩
def swI (c a i:Nat):Nat:=if i=c then a else if i=a then c else i
theorem swI_lt {c a i n:Nat} (hc:c<n) (ha:a<n) (hi:i<n):swI c a i<n:=by
 unfold swI;by_cases e:i=c
 ·rw [if_pos e];exact ha
 ·rw [if_neg e];by_cases e':i=a
  ·rw [if_pos e'];exact hc
  ·rw [if_neg e'];exact hi
theorem swI_inj {c a i j:Nat} (h:swI c a i=swI c a j):i=j:=by
 unfold swI at h;split at h <;> split at h <;> (try split at h) <;> (try split at h) <;> omega
theorem QMat.swap {c a : Nat} (h : QMat w B g k cols rb rc Q K) (hc : c < k) (ha : a < k) :
  QMat ((w.setCell ⟨g,c,none⟩ (.slice (some ⟨rb a,0,none⟩) cols (rc a))).setCell ⟨g,a,none⟩ (.slice (some ⟨rb c,0,none⟩) cols (rc c))) B g k cols (fun i=>rb (swI c a i)) (fun i=>rc (swI c a i)) (fun i=>Q (swI c a i)) (fun i=>K (swI c a i)):=by
 have hr:∀ i,i<k->RowV ((w.setCell ⟨g,c,none⟩ (.slice (some ⟨rb a,0,none⟩) cols (rc a))).setCell ⟨g,a,none⟩ (.slice (some ⟨rb c,0,none⟩) cols (rc c))) (rb i) cols (fun _=>True) (Q i) (K i):=fun i hi=>by
  have h1:=(h.row i hi).storeFar (.slice (some ⟨rb a,0,none⟩) cols (rc a)) (h.hdr c hc) (noInt_slice _ _ _) (fun e=>h.ne i hi e.symm);by_cases e:c=a
  ·subst e;exact h1.storeFar _ (self_set (h.hdr c hc)) (noInt_slice _ _ _) (fun e=>h.ne i hi e.symm)
  ·exact h1.storeFar _ (off_set (by omega) (h.hdr a ha)) (noInt_slice _ _ _) (fun e=>h.ne i hi e.symm)
 refine⟨fun i hi=>?_,fun o=>by rw [World.frozen?_setCell,World.frozen?_setCell];exact h.hf o,h.gB,by simp only [World.setCell,Array.size_modify];exact h.gl,fun i hi=>hr _ (swI_lt hc ha hi),fun i hi=>h.rB _ (swI_lt hc ha hi),fun i hi=>h.ne _ (swI_lt hc ha hi),fun i j hi hj hij=>h.apart _ _ (swI_lt hc ha hi) (swI_lt hc ha hj) (fun e=>hij (swI_inj e))⟩;by_cases e1:i=a
 ·subst e1;have e2:swI c i i=c:=by unfold swI;by_cases e:i=c <;> simp [e]
  rw [e2];by_cases e:c=i
  ·subst e;exact self_set (self_set (h.hdr c hc))
  ·exact self_set (off_set (by omega) (h.hdr i hi))
 ·refine off_set (by omega) ?_;by_cases e2:i=c
  ·subst e2;have e3:swI i a i=a:=by unfold swI;simp
   rw [e3];exact self_set (h.hdr i hi)
  ·have e3:swI c a i=i:=by unfold swI;simp [e1,e2]
   rw [e3];exact off_set (by omega) (h.hdr i hi)
end
end Go.Proofs.YtgmopcncbpdniaaGreat
