import Derived.Test.YtgmopcncbpdniaaGreatJGen
import Derived.Test.YtgmopcncbpdniaaGreatJPlainD
import Derived.Test.YtgmopcncbpdniaaGreatJLive1
import Derived.Test.YtgmopcncbpdniaaGreatJTakes
import Derived.Laws.CopyOwn
set_option linter.unusedVariables false
set_option linter.unusedSimpArgs false
namespace Go.Proofs.YtgmopcncbpdniaaGreat
def FwdArc (d r:Nat→Nat→Int) (a:Arc):Prop:=a.src=a.pi∧a.dst=a.pj∧a.c=1∧r a.pi a.pj<d a.pi a.pj∧a.most=d a.pi a.pj - r a.pi a.pj
def BwdArc (d r:Nat→Nat→Int) (a:Arc):Prop:=a.src=a.pj∧a.dst=a.pi∧a.c = -1∧0<r a.pi a.pj∧a.most=r a.pi a.pj
structure ArcsOK (n m:Nat) (l:Nat→Arc) (d r:Nat→Nat→Int):Prop where
 sound:∀ k,k<m→(l k).pi<n∧(l k).pj<n∧(l k).pi≠(l k).pj∧(FwdArc d r (l k)∨BwdArc d r (l k))
 fwd:∀ i j,i<n→j<n→r i j<d i j→∃ k,k<m∧(l k).src=i∧(l k).dst=j∧(l k).c=1
 bwd:∀ i j,i<n→j<n→0<r i j→∃ k,k<m∧(l k).src=j∧(l k).dst=i∧(l k).c = -1
theorem ArcsOK.arcsIn {n m:Nat} {l:Nat→Arc} {d r:Nat→Nat→Int} (h:ArcsOK n m l d r):ArcsIn n m l:=fun k hk=>by
 obtain⟨h1,h2,h3,h4⟩:=h.sound k hk
 rcases h4 with ⟨e1,e2,_⟩ | ⟨e1,e2,_⟩
 ·rw [e1,e2];exact⟨h1,h2,h3⟩
 ·rw [e1,e2];exact⟨h2,h1,fun e=>h3 e.symm⟩
def upd2 (f:Nat→Nat→Int) (i j:Nat) (x:Int):Nat→Nat→Int:=fun a b=>if a=i∧b=j then x else f a b
theorem upd2_self (f:Nat→Nat→Int) (i j:Nat) (x:Int):upd2 f i j x i j=x:=if_pos ⟨rfl,rfl⟩
theorem upd2_ne (f:Nat→Nat→Int) {i j a b:Nat} (x:Int) (h:¬ (a=i∧b=j)):upd2 f i j x a b=f a b:=if_neg h
theorem sumF_add (f g:Nat→Int) (n:Nat):sumF (fun i=>f i+g i) n=sumF f n+sumF g n:=by
 induction n with
 | zero=>rfl
 | succ n ih=>simp only [sumF];rw [ih];omega
theorem sumF_ind (i:Nat) (x:Int) (n:Nat):sumF (fun a=>if a=i then x else 0) n=if i<n then x else 0:=by
 induction n with
 | zero=>simp [sumF]
 | succ n ih=>
  simp only [sumF];rw [ih]
  by_cases h1:i<n
  ·rw [if_pos h1,if_neg (by omega),if_pos (by omega)];omega
  ·by_cases h2:n=i
   ·rw [if_neg h1,if_pos h2,if_pos (by omega)];omega
   ·rw [if_neg h1,if_neg h2,if_neg (by omega)];omega
def sum2 (n:Nat) (f:Nat→Nat→Int):Int:=sumF (fun i=>sumF (f i) n) n
def bal (n:Nat) (f:Nat→Nat→Int) (v:Nat):Int:=sumF (fun j=>f v j) n - sumF (fun j=>f j v) n
theorem upd2_row (f:Nat→Nat→Int) (i j:Nat) (x:Int) (a:Nat) (n:Nat) (hj:j<n):sumF (upd2 f i j x a) n=sumF (f a) n+(if a=i then x - f i j else 0):=by
 have e:upd2 f i j x a=fun b=>f a b+(if b=j then (if a=i then x - f i j else 0) else 0):=by
  funext b
  unfold upd2
  by_cases h1:a=i
  ·by_cases h2:b=j
   ·subst h1;subst h2;simp;omega
   ·simp [h1,h2]
  ·simp [h1]
 rw [e,sumF_add,sumF_ind,if_pos hj]
theorem upd2_col (f:Nat→Nat→Int) (i j:Nat) (x:Int) (b:Nat) (n:Nat) (hi:i<n):sumF (fun a=>upd2 f i j x a b) n=sumF (fun a=>f a b) n+(if b=j then x - f i j else 0):=by
 have e:(fun a=>upd2 f i j x a b)=fun a=>f a b+(if a=i then (if b=j then x - f i j else 0) else 0):=by
  funext a
  unfold upd2
  by_cases h1:b=j
  ·by_cases h2:a=i
   ·subst h1;subst h2;simp;omega
   ·simp [h1,h2]
  ·simp [h1]
 rw [e,sumF_add,sumF_ind,if_pos hi]
theorem upd2_sum (n:Nat) (f:Nat→Nat→Int) (i j:Nat) (x:Int) (hi:i<n) (hj:j<n):sum2 n (upd2 f i j x)=sum2 n f+(x - f i j):=by
 unfold sum2
 have e:(fun a=>sumF (upd2 f i j x a) n)=fun a=>sumF (f a) n+(if a=i then x - f i j else 0):=by
  funext a;exact upd2_row f i j x a n hj
 rw [e,sumF_add,sumF_ind,if_pos hi]
theorem upd2_bal (n:Nat) (f:Nat→Nat→Int) (i j:Nat) (x:Int) (v:Nat) (hi:i<n) (hj:j<n):bal n (upd2 f i j x) v=bal n f v+((if v=i then x - f i j else 0) - (if v=j then x - f i j else 0)):=by
 unfold bal
 have e:=upd2_row f i j x v n hj
 have e1:sumF (fun b=>upd2 f i j x v b) n=sumF (upd2 f i j x v) n:=rfl
 rw [e1,e,upd2_col f i j x v n hi]
 have e2:sumF (fun b=>f v b) n=sumF (f v) n:=rfl
 rw [e2];omega
def along (l:Nat→Arc) (b:Nat→Int) (y:Nat) (mst:Int) (r:Nat→Nat→Int):Nat→Nat→Nat→Int
 | 0=>r
 | s+1=>upd2 (along l b y mst r s) (l (b (iter (fromF l b) s y)).toNat).pi (l (b (iter (fromF l b) s y)).toNat).pj
   (along l b y mst r s (l (b (iter (fromF l b) s y)).toNat).pi (l (b (iter (fromF l b) s y)).toNat).pj+(l (b (iter (fromF l b) s y)).toNat).c*mst)
structure IsRing (n m:Nat) (l:Nat→Arc) (b:Nat→Int) (y p:Nat):Prop where
 pos:0<p
 back:iter (fromF l b) p y=y
 first:∀ s,0<s→s<p→iter (fromF l b) s y≠y
 arc:∀ s,(b (iter (fromF l b) s y)).toNat<m∧(l (b (iter (fromF l b) s y)).toNat).dst=iter (fromF l b) s y∧(l (b (iter (fromF l b) s y)).toNat).src=iter (fromF l b) (s+1) y
theorem IsRing.apart {n m:Nat} {l:Nat→Arc} {b:Nat→Int} {y p:Nat} (h:IsRing n m l b y p) {s t:Nat} (hst:s<t) (ht:t<p):iter (fromF l b) s y≠iter (fromF l b) t y:=fun e=>by
 have e1:iter (fromF l b) (p - t+t) y=y:=by rw [Nat.sub_add_cancel (by omega)];exact h.back
 rw [iter_add,←e,←iter_add] at e1
 exact h.first (p - t+s) (by omega) (by omega) e1
section
variable {n m:Nat} {l:Nat→Arc} {d r:Nat→Nat→Int} {b:Nat→Int} {y p:Nat} {mst:Int}
theorem along_sum (h:ArcsOK n m l d r) (hr:IsRing n m l b y p):∀ s,sum2 n (along l b y mst r s)=sum2 n r+ringC l b y s*mst
 | 0=>by simp [along,ringC]
 | s+1=>by
  obtain⟨h1,h2,h3,_⟩:=h.sound _ (hr.arc s).1
  simp only [along,ringC]
  rw [upd2_sum n _ _ _ _ h1 h2,along_sum h hr s,Int.add_mul]
  omega
theorem along_bal (h:ArcsOK n m l d r) (hr:IsRing n m l b y p) (v:Nat):∀ s,bal n (along l b y mst r s) v=bal n r v+((if v=iter (fromF l b) s y then mst else 0) - (if v=y then mst else 0))
 | 0=>by simp [along,iter];omega
 | s+1=>by
  obtain⟨h1,h2,h3,h4⟩:=h.sound _ (hr.arc s).1
  obtain⟨_,hd,hs⟩:=hr.arc s
  simp only [along]
  rw [upd2_bal n _ _ _ _ _ h1 h2,along_bal h hr v s]
  rcases h4 with ⟨e1,e2,e3,_⟩ | ⟨e1,e2,e3,_⟩
  ·rw [e3,←e1,←e2,hd,hs]
   split <;> split <;> split <;> omega
  ·rw [e3,←e1,←e2,hd,hs]
   split <;> split <;> split <;> omega
def Used (l:Nat→Arc) (b:Nat→Int) (y:Nat) (c:Int) (i j s:Nat):Prop:=
 ∃ t,t<s∧(l (b (iter (fromF l b) t y)).toNat).pi=i∧(l (b (iter (fromF l b) t y)).toNat).pj=j∧(l (b (iter (fromF l b) t y)).toNat).c=c
open Classical in
theorem along_val (h:ArcsOK n m l d r) (hr:IsRing n m l b y p) (i j:Nat):∀ s,s≤p→along l b y mst r s i j=r i j+(if Used l b y 1 i j s then mst else 0) - (if Used l b y (-1) i j s then mst else 0)
 | 0,_=>by
  have h0:∀ c,¬ Used l b y c i j 0:=fun c ⟨t,ht,_⟩=>by omega
  rw [if_neg (h0 _),if_neg (h0 _)]
  simp [along]
 | s+1,hsp=>by
  have ih:=along_val h hr i j s (by omega)
  obtain⟨h1,h2,h3,h4⟩:=h.sound _ (hr.arc s).1
  obtain⟨_,hd,hs⟩:=hr.arc s
  simp only [along]
  have grow:∀ c,Used l b y c i j (s+1)↔Used l b y c i j s∨((l (b (iter (fromF l b) s y)).toNat).pi=i∧(l (b (iter (fromF l b) s y)).toNat).pj=j∧(l (b (iter (fromF l b) s y)).toNat).c=c):=by
   intro c
   constructor
   ·rintro ⟨t,ht,ho⟩
    rcases Nat.lt_or_ge t s with q | q
    ·exact .inl ⟨t,q,ho⟩
    ·obtain rfl:t=s:=by omega
     exact .inr ho
   ·rintro (⟨t,ht,ho⟩ | ho)
    ·exact⟨t,by omega,ho⟩
    ·exact⟨s,by omega,ho⟩
  by_cases hij:(l (b (iter (fromF l b) s y)).toNat).pi=i∧(l (b (iter (fromF l b) s y)).toNat).pj=j
  ·obtain⟨ei,ej⟩:=hij
   rw [ei,ej,upd2_self,ih]
   rcases h4 with ⟨e1,e2,e3,_⟩ | ⟨e1,e2,e3,_⟩
   ·have hn:¬ Used l b y 1 i j s:=fun ⟨t,ht,oi,oj,oc⟩=>by
     obtain⟨_,_,_,g4⟩:=h.sound _ (hr.arc t).1
     rcases g4 with ⟨g1,g2,g3,_⟩ | ⟨g1,g2,g3,_⟩
     ·exact hr.apart ht (by omega) (by rw [←(hr.arc t).2.1,←hd,g2,e2,oj,ej])
     ·rw [g3] at oc;exact absurd oc (by decide)
    have hy:Used l b y 1 i j (s+1):=(grow 1).2 (.inr ⟨ei,ej,e3⟩)
    have hm:Used l b y (-1) i j (s+1)↔Used l b y (-1) i j s:=by
     rw [grow]
     constructor
     ·rintro (q | ⟨_,_,q⟩)
      ·exact q
      ·rw [e3] at q;exact absurd q (by decide)
     ·exact .inl
    rw [if_neg hn,if_pos hy,e3]
    simp only [hm]
    split <;> omega
   ·have hn:¬ Used l b y (-1) i j s:=fun ⟨t,ht,oi,oj,oc⟩=>by
     obtain⟨_,_,_,g4⟩:=h.sound _ (hr.arc t).1
     rcases g4 with ⟨g1,g2,g3,_⟩ | ⟨g1,g2,g3,_⟩
     ·rw [g3] at oc;exact absurd oc (by decide)
     ·exact hr.apart ht (by omega) (by rw [←(hr.arc t).2.1,←hd,g2,e2,oi,ei])
    have hy:Used l b y (-1) i j (s+1):=(grow (-1)).2 (.inr ⟨ei,ej,e3⟩)
    have hm:Used l b y 1 i j (s+1)↔Used l b y 1 i j s:=by
     rw [grow]
     constructor
     ·rintro (q | ⟨_,_,q⟩)
      ·exact q
      ·rw [e3] at q;exact absurd q (by decide)
     ·exact .inl
    rw [if_neg hn,if_pos hy,e3]
    simp only [hm]
    split <;> omega
  ·rw [upd2_ne _ _ (fun e=>hij ⟨e.1.symm,e.2.symm⟩),ih]
   have hm:∀ c,Used l b y c i j (s+1)↔Used l b y c i j s:=fun c=>by
    rw [grow]
    constructor
    ·rintro (q | ⟨q1,q2,_⟩)
     ·exact q
     ·exact absurd ⟨q1,q2⟩ hij
    ·exact .inl
   simp only [hm]
theorem along_range (h:ArcsOK n m l d r) (hr:IsRing n m l b y p) (h0:0≤mst) (hmst:∀ s,s<p→mst≤(l (b (iter (fromF l b) s y)).toNat).most) (i j:Nat) (hij:0≤r i j∧r i j≤d i j) :
  0≤along l b y mst r p i j∧along l b y mst r p i j≤d i j:=by
 classical
 have hv:=along_val (mst:=mst) h hr i j p (Nat.le_refl _)
 have hf:Used l b y 1 i j p→mst≤d i j - r i j:=fun ⟨t,ht,oi,oj,oc⟩=>by
  have:=hmst t ht
  obtain⟨_,_,_,g4⟩:=h.sound _ (hr.arc t).1
  rcases g4 with ⟨_,_,_,_,g5⟩ | ⟨_,_,g3,_⟩
  ·rw [g5,oi,oj] at this;exact this
  ·rw [g3] at oc;exact absurd oc (by decide)
 have hb:Used l b y (-1) i j p→mst≤r i j:=fun ⟨t,ht,oi,oj,oc⟩=>by
  have:=hmst t ht
  obtain⟨_,_,_,g4⟩:=h.sound _ (hr.arc t).1
  rcases g4 with ⟨_,_,g3,_⟩ | ⟨_,_,_,_,g5⟩
  ·rw [g3] at oc;exact absurd oc (by decide)
  ·rw [g5,oi,oj] at this;exact this
 rw [hv]
 by_cases u1:Used l b y 1 i j p
 ·have:=hf u1
  by_cases u2:Used l b y (-1) i j p
  ·have:=hb u2;rw [if_pos u1,if_pos u2];omega
  ·rw [if_pos u1,if_neg u2];omega
 ·by_cases u2:Used l b y (-1) i j p
  ·have:=hb u2;rw [if_neg u1,if_pos u2];omega
  ·rw [if_neg u1,if_neg u2];omega
end
end Go.Proofs.YtgmopcncbpdniaaGreat
namespace Go.Proofs.YtgmopcncbpdniaaGreat
open Go.RowKit
attribute [local go_sem ↓] Go.wp_at_zero Go.wp_at_succ
structure OwnMat (w:World) (R n:Nat) (r:Nat→Nat→Int):Prop where
 top:w.rowIs R 24 n (fun i=>.slice (some ⟨R+1+i,0,none⟩) n n)
 row:∀ i,i<n→w.rowIs (R+1+i) 3 n (ic (r i))
theorem OwnMat.isMat {w:World} {R n:Nat} {r:Nat→Nat→Int} (h:OwnMat w R n r):IsMat w (some ⟨R,0,none⟩) R 0 n n (fun i=>some ⟨R+1+i,0,none⟩) (fun i=>R+1+i) (fun _=>0) (fun _=>n) (fun _=>n) r:=
 ⟨rowIs_sl h.top,fun i hi=>rowIs_sl (h.row i hi)⟩
theorem OwnMat.mat {w:World} {R n:Nat} {r:Nat→Nat→Int} (h:OwnMat w R n r):Mat w (.slice (some ⟨R,0,none⟩) n n) n (fun _=>n) r:=⟨_,_,_,_,_,_,_,_,rfl,h.isMat⟩
theorem OwnMat.below {w w':World} {R n B:Nat} {r:Nat→Nat→Int} (h:OwnMat w R n r) (hb:Below B w w') (hB:R+1+n≤B):OwnMat w' R n r:=
 ⟨rowIs_below h.top hb (by omega),fun i hi=>rowIs_below (h.row i hi) hb (by omega)⟩
theorem OwnMat.set {w:World} {R n i j:Nat} {r:Nat→Nat→Int} (h:OwnMat w R n r) (hi:i<n) (x:Int):OwnMat (w.setCell ⟨R+1+i,j,none⟩ (.int .i64 x)) R n (upd2 r i j x):=
 ⟨h.top.setOther (by dsimp only;omega) _,fun a ha=>by
  by_cases e:a=i
  ·subst e
   refine ((h.row a ha).set j _).congr fun b hb=>?_
   by_cases e2:b=j
   ·simp [ic,upd2,e2]
   ·simp [ic,upd2,e2]
  ·refine ((h.row a ha).setOther (by dsimp only;omega) _).congr fun b hb=>?_
   simp [ic,upd2,e]⟩
theorem infoIs:(Tryz.prog.info? 24).map (fun i=>(i.zero,i.size,i.bytes))=some (some (.slice none 0 0),1,24):=by kernel_rfl
theorem copy_new (w:World) (n:Nat) (a:Option Addr) (b o c:Nat) (f:Nat→Int) (hn:0<n) (h:IsSl w a b o c n (ic f)) :
  (Builtin.copy_ #[24,24] 3 #[.slice (some ⟨w.heap.size,0,none⟩) n n,.slice a n c]).run Tryz.prog (w.alloc (.cells (madeCells #[.int .i64 0] n) 3)) =
   .ok (.int .i64 (n:Nat)) (w.alloc (.cells (ics f n).toArray 3)):=by
 obtain rfl:=h.at_ hn
 have hz:(madeCells #[Value.int .i64 0] n).size=n:=size_madeCells _ _
 have e:=run_copy_rowS (P:=Tryz.prog) (w.alloc (.cells (madeCells #[.int .i64 0] n) 3)) 24 24 3 3 w.heap.size 0 n n ⟨b,o,none⟩ n c (madeCells #[.int .i64 0] n) 3
  (ics f n) 1 n Tryz.underlying24 (by kernel_rfl) (by unfold World.alloc;simp) (by simp) (by rw [ics_length];omega) ?_ (by rw [ics_length,hz];omega) (ics_one f n)
 ·have hl:((madeCells #[Value.int .i64 0] n).toList.take 0 ++ ics f n ++ (madeCells #[Value.int .i64 0] n).toList.drop (0+(ics f n).length)).toArray=(ics f n).toArray:=by
   rw [ics_length,Nat.zero_add,List.drop_eq_nil_of_le (by rw [Array.length_toList,hz];omega)]
   simp
  rw [e,hl,alloc_setRow]
  rfl
 ·intro j v hj
  have hlt:=h.lt hn
  have hjn:j<n:=by
   have:=(List.getElem?_eq_some_iff.1 hj).1
   rw [ics_length] at this;exact this
  rw [ics_get f n j hjn] at hj
  have hadd:(⟨b,o,none⟩:Addr).add j=⟨b,o+j,none⟩:=by unfold Addr.add;split <;> simp_all
  rw [hadd,←Option.some.inj hj]
  exact (World.cell?_alloc_some w _ _ (by rw [h.cell j hjn];rfl)).trans (h.cell j hjn)
theorem row_of_ics (w:World) (b n:Nat) (f:Nat→Int) (hb:b=w.heap.size):(w.alloc (.cells (ics f n).toArray 3)).rowIs b 3 n (ic f):=by
 subst hb
 have h:=World.rowIs_alloc w (ics f n).toArray 3 (ic f) (fun i hi=>by simp [ics_length] at hi;simp [ics,hi])
 simpa [ics_length] using h
set_option maxHeartbeats 2000000 in
set_option maxRecDepth 100000 in
theorem copied_any (v:Value) (n:Nat) (d:Nat→Nat→Int) (w:World) (hv:Mat w v n (fun _=>n) d) (h0:0<n) (hn:n≤8) :
  Calls Tryz.prog 116 #[v] w fun e w'=>e = .returned (.slice (some ⟨w.heap.size,0,none⟩) n n)∧OwnMat w' w.heap.size n d∧w'.heap.size=w.heap.size+1+n∧Below w.heap.size w w':=by
 obtain⟨a,b,o,c,ra,rb,ro,rc,rfl,hs⟩:=hv
 have hmk:=run_make_row' (P:=Tryz.prog) 25 24 (.slice none 0 0) 24 Tryz.underlying25 infoIs rfl .i64 .i64 n (by omega) (by omega)
 have hmk2:=run_make_row' (P:=Tryz.prog) 24 3 (.int .i64 0) 8 Tryz.underlying24 infoI rfl .i64 .i64 n (by omega) (by omega)
 have HROW:=Lib.hid (World.rowIs_made w (.slice none 0 0) n 24)
 have KW0:=Lib.hid ((Below.refl w.heap.size w).alloc (Nat.le_refl _) (.cells (madeCells #[.slice none 0 0] n) 24))
 have HS:=Lib.hid hs
 clear hs
 go_enter Tryz.func116,Tryz.ntmps116
 go_wp2
 go_loopw [4,5,11] (fun _ _ v11 wr=>∃ k:Nat,k≤n∧v11 = .int .i64 (k:Nat)∧Hid (wr.rowIs w.heap.size 24 n (fun i=>if i<k then .slice (some ⟨w.heap.size+1+i,0,none⟩) n n else .slice none 0 0))∧
   Hid (∀ i,i<k→wr.rowIs (w.heap.size+1+i) 3 n (ic (d i)))∧Hid (wr.heap.size=w.heap.size+1+k)∧Hid (Below w.heap.size w wr)) (fun _ _ v11 _=>n - (intOf v11).toNat)
 case atStart=>exact⟨0,by omega,rfl,Lib.hid (HROW.out.congr fun i hi=>by simp),Lib.hid (fun i hi=>by omega),Lib.hid (by simp),KW0⟩
 case round=>
  clear KW0 HROW
  obtain⟨k,hk,rfl,TOP,ROWS,SZ,KW⟩:=hrel
  by_cases h:k<n
  ·have hm:=HS.out.mono KW.out (Nat.le_refl _)
   have hix:=fun W=>ixM hm.top k c h W
   have hcr:=hm.top.cell k h
   have htx:=fun W=>ixM (rowIs_sl TOP.out) k n h W
   simp only [Nat.zero_add] at htx
   have htc:=TOP.out.cell h
   rw [if_neg (Nat.lt_irrefl k)] at htc
   have htf:=TOP.out.frozen k
   have hsz:=SZ.out
   have hlt:w.heap.size<wr.heap.size:=TOP.out.lt
   have hrw:=hm.row k h
   have HRW:=Lib.hid hrw
   have HSL:Hid (IsSl (wr.setCell ⟨w.heap.size,k,none⟩ (.slice (some ⟨wr.heap.size,0,none⟩) n n)) (ra k) (rb k) (ro k) (rc k) n (ic (d k))):=Lib.hid (hrw.setCell _ htc (fun i hi e=>by simp only [ic] at e;cases e))
   have hcp:=copy_new (wr.setCell ⟨w.heap.size,k,none⟩ (.slice (some ⟨wr.heap.size,0,none⟩) n n)) n (ra k) (rb k) (ro k) (rc k) (d k) h0 HSL.out
   have hss:(wr.setCell ⟨w.heap.size,k,none⟩ (.slice (some ⟨wr.heap.size,0,none⟩) n n)).heap.size=wr.heap.size:=by simp [World.setCell]
   rw [hss] at hcp
   clear hm hrw hss hsz
   go_wp2
   go_roundw
   case rel=>
    have hb1:Below w.heap.size w ((wr.setCell ⟨w.heap.size,k,none⟩ (.slice (some ⟨wr.heap.size,0,none⟩) n n)).alloc (.cells (ics (d k) n).toArray 3)):=
     (KW.out.setCell (Nat.le_refl _) _).alloc (by simp only [World.setCell,Array.size_modify];exact KW.out.size) _
    have e1:=SZ.out
    refine⟨k+1,by omega,by go_num,Lib.hid ?_,Lib.hid ?_,Lib.hid ?_,Lib.hid hb1⟩
    ·refine ((TOP.out.set k _).alloc _).congr fun i hi=>?_
     by_cases e:i=k
     ·subst e;rw [if_pos rfl,if_pos (by omega),e1]
     ·rw [if_neg e]
      by_cases e2:i<k
      ·rw [if_pos e2,if_pos (by omega)]
      ·rw [if_neg e2,if_neg (by omega)]
    ·intro i hi
     by_cases e:i=k
     ·subst e
      exact row_of_ics _ _ n (d i) (by simp only [World.setCell,Array.size_modify];omega)
     ·exact ((ROWS.out i (by omega)).setOther (by dsimp only;omega) _).alloc _
    ·simp [World.setCell];omega
   case measure=>simp [intOf];omega
  ·obtain rfl:k=n:=by omega
   go_wp2
   go_ret
   refine⟨rfl,⟨TOP.out.congr fun i hi=>by rw [if_pos hi],ROWS.out⟩,SZ.out,KW.out⟩
end Go.Proofs.YtgmopcncbpdniaaGreat
namespace Go.Proofs.YtgmopcncbpdniaaGreat
open Go.RowKit
attribute [local go_sem ↓] Go.wp_at_zero Go.wp_at_succ
def repV (k:Nat) (i:Nat):Value:=if i<k then .int .i64 (-1) else .int .i64 0
theorem mul1n (n:Nat) (hn:n≤8) (W:World):Calls Tryz.prog 150 #[.int .u64 1,.int .u64 (n:Nat)] W fun e w'=>e = .returned (.tuple #[.int .u64 0,.int .u64 (n:Nat)])∧W=w':=by
 have h:=Tryz.bits_Mul 1 n (by omega) (by omega) W
 refine Calls.mono (show Calls Tryz.prog 150 #[.int .u64 1,.int .u64 (n:Nat)] W _ from h) ?_
 rintro e w' ⟨rfl,rfl⟩
 refine⟨?_,rfl⟩
 rw [Nat.one_mul,Nat.div_eq_of_lt (by omega),Nat.mod_eq_of_lt (by omega)]
 rfl
theorem copy_in (w:World) (b n k B:Nat) (hk:0<k) (hkn:k<n) (hB:B≤b) (h:w.rowIs b 3 n (repV k)) :
  ∃ w',(Builtin.copy_ #[24,24] 3 #[.slice (some ⟨b,k,none⟩) (n - k) (n - k),.slice (some ⟨b,0,none⟩) k n]).run Tryz.prog w = .ok (.int .i64 (Nat.min k (n - k):Nat)) w'∧
   w'.rowIs b 3 n (repV (k+Nat.min k (n - k)))∧w'.heap.size=w.heap.size∧∀ w0,Below B w0 w→Below B w0 w':=by
 obtain⟨c,hb,hn,hc⟩:=h
 have hm:Nat.min k (n - k)≤n - k:=Nat.min_le_right _ _
 have hm2:Nat.min k (n - k)≤k:=Nat.min_le_left _ _
 generalize hmm:Nat.min k (n - k)=m at hm hm2 ⊢
 have e:=run_copy_rowS (P:=Tryz.prog) w 24 24 3 3 b k (n - k) (n - k) ⟨b,0,none⟩ k n c 3 (List.replicate m (.int .i64 (-1))) 1 m Tryz.underlying24 (by kernel_rfl) hb hmm.symm (by simp)
  (fun j v hj=>by
   have hjm:j<m:=by simpa using (List.getElem?_eq_some_iff.1 hj).1
   have hadd:(⟨b,0,none⟩:Addr).add j=⟨b,j,none⟩:=by unfold Addr.add;split <;> simp_all
   rw [hadd]
   have:v = .int .i64 (-1):=by simp [hjm] at hj;exact hj.symm
   have hcell:w.cell? ⟨b,j,none⟩=some (repV k j):=World.rowIs.cell ⟨c,hb,hn,hc⟩ (by omega)
   rw [hcell,this];unfold repV;rw [if_pos (by omega)])
  (by rw [List.length_replicate];omega) (fun v hv=>by rw [List.eq_of_mem_replicate hv];rfl)
 refine⟨_,e,⟨_,setRow_heap w b c _ _ _ hb,?_,fun i hi=>?_⟩,size_setRow _ _ _,fun w0 hw=>below_setRow hw hB _⟩
 ·simp;omega
 ·have hci:=hc i hi
  simp only [List.getElem?_toArray,List.length_replicate]
  by_cases h1:i<k
  ·rw [List.append_assoc,List.getElem?_append_left (by simp;omega),List.getElem?_take_of_lt h1,Array.getElem?_toList,hci]
   unfold repV;rw [if_pos h1,if_pos (by omega)]
  ·by_cases h2:i<k+m
   ·rw [List.append_assoc,List.getElem?_append_right (by simp;omega),List.getElem?_append_left (by simp;omega)]
    rw [List.getElem?_replicate,if_pos (by simp;omega)]
    unfold repV;rw [if_pos h2]
   ·rw [List.getElem?_append_right (by simp;omega),List.getElem?_drop,Array.getElem?_toList]
    have:k+m+(i - (List.take k c.toList ++ List.replicate m (Value.int IntKind.i64 (-1))).length)=i:=by simp;omega
    rw [this,hci]
    unfold repV;rw [if_neg h1,if_neg h2]
theorem copy_first (w:World) (b n c:Nat) (hn:0<n) (hb:w.cell? ⟨b,0,none⟩=some (.int .i64 (-1))) :
  ∃ w',(Builtin.copy_ #[24,24] 3 #[.slice (some ⟨w.heap.size,0,none⟩) n n,.slice (some ⟨b,0,none⟩) 1 c]).run Tryz.prog (w.alloc (.cells (madeCells #[.int .i64 0] n) 3)) = .ok (.int .i64 1) w'∧
   w'.rowIs w.heap.size 3 n (repV 1)∧w'.heap.size=w.heap.size+1∧Below w.heap.size w w':=by
 have hz:(madeCells #[Value.int .i64 0] n).size=n:=size_madeCells _ _
 have hnew:(w.alloc (.cells (madeCells #[.int .i64 0] n) 3)).heap[w.heap.size]? = some (.cells (madeCells #[.int .i64 0] n) 3 (0,0)):=by unfold World.alloc;simp
 have e:=run_copy_rowS (P:=Tryz.prog) (w.alloc (.cells (madeCells #[.int .i64 0] n) 3)) 24 24 3 3 w.heap.size 0 n n ⟨b,0,none⟩ 1 c (madeCells #[.int .i64 0] n) 3
  [.int .i64 (-1)] 1 1 Tryz.underlying24 (by kernel_rfl) hnew (by show 1=Nat.min 1 n;exact (Nat.min_eq_left hn).symm) rfl (fun j v hj=>by
   match j,hj with
   | 0,hj=>
    simp at hj;subst hj
    exact (World.cell?_alloc_some w _ _ (by show (w.cell? ⟨b,0,none⟩).isSome=true;rw [hb];rfl)).trans hb) (by rw [hz];simp;omega) (fun v hv=>by simp at hv;rw [hv];rfl)
 refine⟨_,e,⟨_,setRow_heap _ _ _ _ _ _ hnew,?_,fun i hi=>?_⟩,by rw [size_setRow];simp,below_setRow ((Below.refl w.heap.size w).alloc (Nat.le_refl _) _) (Nat.le_refl _) _⟩
 ·simp;omega
 ·have hm:(madeCells #[Value.int .i64 0] n)[i]? = some (.int .i64 0):=by simp [madeCells,hi,Nat.mod_one]
  unfold repV
  by_cases h1:i<1
  ·obtain rfl:i=0:=by omega
   simp
  ·rw [if_neg h1]
   simp only [List.getElem?_toArray]
   rw [List.getElem?_append_right (by simp;omega),List.getElem?_drop,Array.getElem?_toList]
   have:0 + [Value.int IntKind.i64 (-1)].length+(i - (List.take 0 (madeCells #[Value.int .i64 0] n).toList ++ [Value.int IntKind.i64 (-1)]).length)=i:=by simp;omega
   rw [this];exact hm
set_option maxHeartbeats 2000000 in
set_option maxRecDepth 100000 in
theorem repeat_neg (b c n:Nat) (w:World) (h0:0<n) (hn:n≤8) (hb:w.cell? ⟨b,0,none⟩=some (.int .i64 (-1))) :
  Calls Tryz.prog 140 #[.slice (some ⟨b,0,none⟩) 1 c,.int .i64 (n:Nat)] w fun e w'=>e = .returned (.slice (some ⟨w.heap.size,0,none⟩) n n)∧w'.rowIs w.heap.size 3 n (repV n)∧w'.heap.size=w.heap.size+1∧Below w.heap.size w w':=by
 have hmk:=run_make_row' (P:=Tryz.prog) 24 3 (.int .i64 0) 8 Tryz.underlying24 infoI rfl .i64 .i64 n (by omega) (by omega)
 have g0:(0:Int)<(n:Int):=by omega
 have hw1:IntKind.u64.wrap (n:Int)=(n:Int):=by rw [IntKind.wrap_u64];omega
 have hw2:IntKind.i64.wrap (n:Int)=(n:Int):=by rw [IntKind.wrap_i64];omega
 have hlim:¬ (n:Int) > 9223372036854775807:=by omega
 obtain⟨wC,hcp,HR,hsz,HB⟩:=copy_first w b n c h0 hb
 have HR:=Lib.hid HR
 have HB:=Lib.hid HB
 have HSZ:=Lib.hid hsz
 clear hsz
 go_enter Tryz.func140,Tryz.ntmps140
 go_wp2_with (first
  | (go_at_call 150;(with_reducible refine (mul1n n hn _).mono ?_);rintro e w1 ⟨rfl,rfl⟩))
 go_loopw [8] (fun v8 wr=>∃ k:Nat,0<k∧k≤n∧v8 = .int .i64 (k:Nat)∧Hid (wr.rowIs w.heap.size 3 n (repV k))∧Hid (wr.heap.size=w.heap.size+1)∧Hid (Below w.heap.size w wr)) (fun v8 _=>n - (intOf v8).toNat)
 case atStart=>exact⟨1,by omega,by omega,rfl,HR,HSZ,HB⟩
 case round=>
  clear HR HSZ HB
  obtain⟨k,k0,hk,rfl,HR,HSZ,HB⟩:=hrel
  by_cases h:k<n
  ·obtain⟨wD,hc2,HR2,hsz2,HB2⟩:=copy_in wr.drew w.heap.size n k w.heap.size k0 h (Nat.le_refl _) HR.out
   have HR2:=Lib.hid HR2
   have HB2:=Lib.hid (HB2 _ HB.out.drew)
   have HSZ2:=Lib.hid hsz2
   clear hsz2
   have hm1:Nat.min k (n - k)≤n - k:=Nat.min_le_right _ _
   have hm0:0<Nat.min k (n - k):=by show 0<min k (n - k);omega
   generalize Nat.min k (n - k)=m at *
   have hwk:IntKind.i64.wrap ((k:Int)+(m:Int))=((k+m:Nat):Int):=by rw [IntKind.wrap_i64];omega
   have g1:(0:Int)≤(k:Int):=Int.natCast_nonneg k
   have g2:(k:Int)<(n:Int):=by omega
   have g3:(k:Int)≤(n:Int):=by omega
   go_wp2
   go_region
   go_wp2
   go_roundw
   case rel=>exact⟨k+m,by omega,by omega,by go_num,HR2,Lib.hid (HSZ2.out.trans HSZ.out),HB2⟩
   case measure=>simp [intOf];omega
  ·obtain rfl:k=n:=by omega
   go_wp2
   go_ret
   exact⟨rfl,HR.out,HSZ.out,HB.out⟩
end Go.Proofs.YtgmopcncbpdniaaGreat
