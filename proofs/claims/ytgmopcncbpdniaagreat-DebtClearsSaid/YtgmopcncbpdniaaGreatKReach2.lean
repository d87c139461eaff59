import Derived.Test.YtgmopcncbpdniaaGreatKShelf
import Derived.Test.YtgmopcncbpdniaaGreatKGrp2
import Derived.Test.YtgmopcncbpdniaaGreatKRefN
import Derived.Test.YtgmopcncbpdniaaGreatKMade0
import Derived.Test.YtgmopcncbpdniaaGreatKQMat
import Derived.Test.YtgmopcncbpdniaaGreatKSol
import Derived.Deep.DeepCutAuto
import Derived.Deep.CutBlock
import Derived.BigRegion
set_option linter.unusedVariables false
set_option linter.unusedSimpArgs false
namespace Go.Proofs.YtgmopcncbpdniaaGreat
open Go.RowKit
attribute [local go_sem ↓] Go.wp_at_zero Go.wp_at_succ
theorem mkBn (n:Nat) (hn:n<=1000) (W:World):(Instr.makeSlice 44 (.int .i64 (n:Nat)) (.int .i64 (n:Nat))).run Tryz.prog W = .ok (.slice (some ⟨W.heap.size,0,none⟩) n n) (W.alloc (.cells (madeCells #[.bool false] n) 4)):=
 run_make_row' (P:=Tryz.prog) 44 4 (.bool false) 1 Tryz.underlying44 infoB rfl .i64 .i64 n (by omega) (by omega) W
def bF (F:Nat->Bool) (i:Nat):Value:=.bool (F i)
theorem bls_of {w:World} {b n:Nat} {F:Nat->Bool} (h:w.rowIs b 4 n (bF F)):Bls w b n F:=⟨fun i hi=>h.cell hi,h.lt⟩
def rwF (n:Nat) (cash:Nat->Int) (d:Nat->Nat->Int) (ps:(Nat->Bool)->Nat->Rat) (q r:Nat):Int:=((frN (NW n cash d ps q) n r:Nat):Int)
def rwM (n:Nat) (cash:Nat->Int) (d:Nat->Nat->Int) (ps:(Nat->Bool)->Nat->Rat) (q:Nat):Nat:=rankF (NW n cash d ps q) n
theorem RowsIn.setFar {B:Nat} {w:World} {q:Nat} {v:Value} {ra:Nat->Option Addr} {rc m:Nat->Nat} {f:Nat->Nat->Int} (G:RowsIn B w q v ra rc m f) {b o:Nat} (hb:b<B) (u:Value):RowsIn B (w.setCell ⟨b,o,none⟩ u) q v ra rc m f:=by
 have hg:w.grownBy (w.setCell ⟨b,o,none⟩ u) (some b):=⟨rfl,rfl,rfl,by simp [World.setCell],fun k _ hk=>Below.heap_setCell _ _ _ _ (fun e=>hk (by rw [e]))⟩;exact⟨G.own.kept hg (.inr (fun e=>by have:=(G.own.lt b e).1;omega)),fun i hi=>(G.row i hi).kept hg (.inr (fun e=>by have:=((G.row i hi).lt b e).1;omega)),G.far,G.apart⟩
theorem RowsIn.pushR {B base : Nat} {w w5 : World} {q : Nat} {v v' : Value} {ra : Nat -> Option Addr} {rc m : Nat -> Nat} {f : Nat -> Nat -> Int} (G : RowsIn B w q v ra rc m f) {a : Option Addr} {c : Nat} (hB : B <= base)
  (hs:w.ownsRow base 3 1 (.slice a (m q) c) (m q) (ics (f q) (m q))) (hlv:∀ g,v.ownBlock=some g->g<base) (hlr:∀ i g,i<q->blk (ra i)=some g->g<base) (ob:Obj) (hgrow:(w.alloc ob).grownBy w5 v.ownBlock)
  (hbk:v'.ownBlock=v.ownBlock\/v'.ownBlock=some (w.alloc ob).heap.size) (hown:w5.ownsRow B 24 1 v' (q+1) (rowCells ra m rc q ++ [.slice a (m q) c])) :
  RowsIn B w5 (q+1) v' (setN ra q a) (setN rc q c) m f:=by
 have hnew:∀ g,blk a=some g->base<=g/\g<w.heap.size:=fun g e=>hs.lt g (by rw [ownBlock_blk];exact e)
 have hal:(w.alloc ob).heap.size=w.heap.size+1:=by simp
 have hltr:∀ i g,i<q->blk (ra i)=some g->g<w.heap.size:=fun i g hi e=>((G.row i hi).lt g (by rw [ownBlock_blk];exact e)).2
 have hv':∀ g,v'.ownBlock=some g->v.ownBlock=some g\/g=w.heap.size+1:=fun g e=>by
  rcases hbk with h | h
  ·left;rw [<-h];exact e
  ·right;rw [h,hal] at e;exact (Option.some.inj e).symm
 refine⟨by rw [<-rowCells_succ];exact hown,fun i hi=>?_,fun i g hi e e2=>?_,fun i j g hij hj e e2=>?_⟩
 ·by_cases h:i=q
  ·subst h;rw [setN_self,setN_self];refine ((own_base hs hB).alloc ob).kept hgrow ?_;rw [ownBlock_blk];rcases hbb:blk a with _ | g
   ·exact .inl rfl
   ·right;intro e;have:=hlv g e.symm;have:=hnew g hbb;omega
  ·rw [setN_ne _ _ h,setN_ne _ _ h];have hi':i<q:=by omega
   refine ((G.row i hi').alloc ob).kept hgrow ?_;rw [ownBlock_blk];rcases hbb:blk (ra i) with _ | g
   ·exact .inl rfl
   ·right;intro e;exact G.far i g hi' hbb e.symm
 ·by_cases h:i=q
  ·subst h;rw [setN_self] at e;have h1:=hnew g e;rcases hv' g e2 with h2 | h2
   ·have:=hlv g h2;omega
   ·omega
  ·rw [setN_ne _ _ h] at e;have hi':i<q:=by omega
   have h1:=hltr i g hi' e;rcases hv' g e2 with h2 | h2
   ·exact G.far i g hi' e h2
   ·omega
 ·have hi:i<q:=by omega
  rw [setN_ne _ _ (by omega)] at e;by_cases h:j=q
  ·subst h;rw [setN_self] at e2;have h1:=hlr i g hi e;have h2:=hnew g e2;omega
  ·rw [setN_ne _ _ h] at e2;exact G.apart i j g hij (by omega) e e2
theorem own_setFar {w:World} {base e s n:Nat} {v:Value} {xs:List Value} (h:w.ownsRow base e s v n xs) {b o:Nat} (hb:b<base) (u:Value):(w.setCell ⟨b,o,none⟩ u).ownsRow base e s v n xs:=
 h.kept (row:=some b) ⟨rfl,rfl,rfl,by simp [World.setCell],fun k _ hk=>Below.heap_setCell _ _ _ _ (fun e=>hk (by rw [e]))⟩ (.inr (fun e=>by have:=(h.lt b e).1;omega))
theorem RowsIn.base {B B':Nat} {w:World} {q:Nat} {v:Value} {ra:Nat->Option Addr} {rc m:Nat->Nat} {f:Nat->Nat->Int} (G:RowsIn B' w q v ra rc m f) (h:B<=B'):RowsIn B w q v ra rc m f:=
 ⟨own_base G.own h,fun i hi=>own_base (G.row i hi) h,G.far,G.apart⟩
theorem own_some {w:World} {base e n:Nat} {a:Option Addr} {c:Nat} {xs:List Value} (h:w.ownsRow base e 1 (.slice a n c) n xs) (hn:0<n):∃ g,a=some ⟨g,0,none⟩/\base<=g/\∀ j u,xs[j]? = some u->w.cell? ⟨g,j,none⟩=some u:=by
 rcases h.2 with ⟨_,e⟩ | ⟨g,cap,cur,hv,hbg,_⟩
 ·omega
 ·injection hv with e1 e2 e3;subst e1;refine⟨g,rfl,hbg,fun j u hu=>?_⟩;have:=h.cells (g:=g) rfl j u hu;rw [add_at,Nat.zero_add] at this;exact this
def mkF (n:Nat) (F G:Nat->Bool) (r i:Nat):Bool:=F i || (G i && decide (rankF G i<r))
theorem zqm_s:Tryz.prog.underlying 166=some (.slice (Tryz.prog.elem 166)):=by kernel_rfl
theorem zqm_z (W:World):(sizeOf (Tryz.prog.elem 166)).run Tryz.prog W = .ok 1 W:=by kernel_rfl
theorem ixW (b n c i : Nat) (hi : i < n) (W : World) :
  (Instr.indexAt 166 (.slice (some ⟨b,0,none⟩) n c) (.int .i64 (i:Int))).run Tryz.prog W = .ok (.pointer (some ⟨b,i,none⟩)) W:=by
 have h:=run_indexAt_opt 166 zqm_s zqm_z (some ⟨b,0,none⟩) b 0 n c (fun _=>rfl) .i64 i (by omega) (by omega) W;simpa using h
theorem infoZQs:(Tryz.prog.info? 32).map (fun i=>(i.zero,i.size,i.bytes))=some (some (.slice none 0 0),1,24):=by kernel_rfl
theorem mkVn (n:Nat) (hn:n<=1000) (W:World):(Instr.makeSlice 32 (.int .i64 (n:Int)) (.int .i64 (n:Int))).run Tryz.prog W = .ok (.slice (some ⟨W.heap.size,0,none⟩) n n) (W.alloc (.cells (madeCells zR (n*4)) 40)):=by
 obtain⟨i0,hi,hz0,hz1,hz2⟩:=info_parts infoZQ;have h:=run_make (P:=Tryz.prog) W 32 40 i0 _ Tryz.underlying32 hi hz0 .i64 .i64 n n (by omega) (by omega) (by rw [hz2];omega) (by omega);have e:(Value.agg #[.bool false,.slice none 0 0,.bool false,.slice none 0 0]).cells=zR:=by kernel_rfl
 rw [h,hz1,e,Int.toNat_natCast]
structure RowsQ (B:Nat) (w:World) (i:Nat) (v:Value) (cols:Nat) (rb:Nat->Nat) (Q:Nat->Nat->Rat) (K:Nat->Nat->Nat) (xs:List Value):Prop where
 kind:KindZ w v
 own:w.ownsRow B 32 1 v i xs
 hdr:∀ r,r<i->xs[r]? = some (.slice (some ⟨rb r,0,none⟩) cols cols)
 row:∀ r,r<i->RowV w (rb r) cols (fun _=>True) (Q r) (K r)
 rB:∀ r,r<i->B<=rb r
 ne:∀ r,r<i->some (rb r)≠v.ownBlock
 apart:∀ r s,r<i->s<i->r≠s->rb r≠rb s
section
variable {B:Nat} {w w' wi w5:World} {i cols:Nat} {v v':Value} {rb:Nat->Nat} {Q:Nat->Nat->Rat} {K:Nat->Nat->Nat} {xs:List Value}
theorem RowsQ.below (h:RowsQ B w i v cols rb Q K xs) (hb:Below w.heap.size w w'):RowsQ B w' i v cols rb Q K xs:=
 ⟨h.kind.below hb (fun g hg=>(h.own.lt g hg).2),own_kept h.own hb,h.hdr,fun r hr=>(h.row r hr).below hb jl,h.rB,h.ne,h.apart⟩
theorem RowsQ.push {b : Nat} {ob : Obj} (h : RowsQ B w i v cols rb Q K xs) (hB : B <= w.heap.size) (hb : Below w.heap.size w wi) (hrow : RowV wi b cols (fun _ => True) (Q i) (K i)) (hbb : w.heap.size <= b) (hbl : b < wi.heap.size)
  (hown:w5.ownsRow B 32 1 v' (i+1) (xs ++ [.slice (some ⟨b,0,none⟩) cols cols])) (hgrow:(wi.alloc ob).grownBy w5 v.ownBlock) (hblk:v'.ownBlock=v.ownBlock\/v'.ownBlock=some (wi.alloc ob).heap.size) (hkind:KindZ w5 v') :
  RowsQ B w5 (i+1) v' cols (setN rb i b) Q K (xs ++ [.slice (some ⟨b,0,none⟩) cols cols]):=by
 have hl:=h.own.1;have hv:∀ g,v.ownBlock=some g->g<w.heap.size:=fun g hg=>(h.own.lt g hg).2
 have hal:(wi.alloc ob).heap.size=wi.heap.size+1:=by simp
 have hkz:KindZ (wi.alloc ob) v:=h.kind.below (hb.alloc hb.size ob) hv
 have hne:∀ g,g<wi.heap.size->some g≠v.ownBlock->some g≠v'.ownBlock:=fun g hg h1=>by
  rcases hblk with e | e
  ·rw [e];exact h1
  ·rw [e,hal];intro q;have:=Option.some.inj q;omega
 have hrl:∀ r,r<i->rb r<w.heap.size:=fun r hr=>(h.row r hr).lt
 have hsz:=hb.size;refine⟨hkind,hown,fun r hr=>?_,fun r hr=>?_,fun r hr=>?_,fun r hr=>?_,fun r s hr hs hrs=>?_⟩
 ·by_cases e:r=i
  ·subst e;rw [setN_self,List.getElem?_append_right (by omega),show r - xs.length=0 by omega];rfl
  ·rw [setN_ne _ _ e,List.getElem?_append_left (by omega)];exact h.hdr r (by omega)
 ·by_cases e:r=i
  ·subst e;rw [setN_self];refine (hrow.alloc ob).kept hkz hgrow (fun q=>?_);have:=hv b q.symm;omega
  ·rw [setN_ne _ _ e];have hr':r<i:=by omega
   exact (((h.row r hr').below hb jl).alloc ob).kept hkz hgrow (h.ne r hr')
 ·by_cases e:r=i
  ·subst e;rw [setN_self];omega
  ·rw [setN_ne _ _ e];exact h.rB r (by omega)
 ·by_cases e:r=i
  ·subst e;rw [setN_self];exact hne b hbl (fun q=>by have:=hv b q.symm;omega)
  ·rw [setN_ne _ _ e];have hr':r<i:=by omega
   exact hne _ (by have:=hrl r hr';omega) (h.ne r hr')
 ·by_cases e:r=i
  ·subst e;rw [setN_self,setN_ne _ _ (fun q=>hrs q.symm)];have:=hrl s (by omega);omega
  ·by_cases e2:s=i
   ·subst e2;rw [setN_self,setN_ne _ _ e];have:=hrl r (by omega);omega
   ·rw [setN_ne _ _ e,setN_ne _ _ e2];exact h.apart r s (by omega) (by omega) hrs
theorem RowsQ.qmat {n:Nat} (h:RowsQ B w n v cols rb Q K xs) (h0:0<n):∃ t vk,v = .slice (some ⟨t,0,none⟩) n vk/\QMat w B t n cols rb (fun _=>cols) Q K:=by
 have h1:=h.own;rcases h1.2 with ⟨_,e⟩ | ⟨g,cap,cur,hv,hbg,hg,hcap,hml,hsz,htk⟩
 ·omega
 ·subst hv;have hlt:g<w.heap.size:=(Array.getElem?_eq_some_iff.1 hg).1;have hc:=h1.cells (g:=g) rfl;refine⟨g,cap,rfl,fun r hr=>?_,fun o=>h1.frozenAt o,hbg,hlt,h.row,h.rB,fun r hr e=>h.ne r hr (by rw [e];rfl),h.apart⟩;have:=hc r _ (h.hdr r hr);rw [add_at,Nat.zero_add] at this;exact this
theorem RowsQ.start (w:World) (cols:Nat) (Q:Nat->Nat->Rat) (K:Nat->Nat->Nat):RowsQ w.heap.size (w.alloc (.cells #[] 32)) 0 (.slice (some ⟨w.heap.size,0,none⟩) 0 0) cols (fun _=>0) Q K []:=
 ⟨kindz_made _ _ _ _,World.ownsRow_made (e:=32) (base:=w.heap.size) (size:=1) w #[] 0 jl (by unfold maxLen;omega) rfl,fun r h=>by omega,fun r h=>by omega,fun r h=>by omega,fun r h=>by omega,fun r s h=>by omega⟩
end
def Bsl (w:World) (v:Value) (n:Nat) (F:Nat->Bool):Prop:=∃ a b o c,v = .slice a n c/\IsSl w a b o c n (bF F)
theorem Bsl.mono {w w':World} {v:Value} {n B:Nat} {F:Nat->Bool} (h:Bsl w v n F) (hb:Below B w w') (hB:w.heap.size<=B):Bsl w' v n F:=by
 obtain⟨a,b,o,c,rfl,h1⟩:=h;exact⟨a,b,o,c,rfl,h1.mono hb hB⟩
theorem ixF {w:World} {a:Option Addr} {b o c n:Nat} {g:Nat->Value} (h:IsSl w a b o c n g) (i d:Nat) (hi:i<n) (W:World) :
   (Instr.indexAt 44 (.slice a n d) (.int .i64 (i:Int))).run Tryz.prog W = .ok (.pointer (some ⟨b,o+i,none⟩)) W:=
  run_indexAt_opt 44 bools_s bools_z a b o n d (fun q=>h.at_ q) .i64 i (by omega) (by omega) W
def rhsQ (n:Nat) (cash:Nat->Int) (d:Nat->Nat->Int) (F fr:Nat->Bool) (one:Int) (i:Nat):Rat:=
 if fr i=true then (if (i:Int)=one then 1 else 0) else if F i=true then cashQ cash i else totQ n d i
def sysQ (n:Nat) (cash:Nat->Int) (d:Nat->Nat->Int) (F fr:Nat->Bool) (one:Int) (i j:Nat):Rat:=
 if j=n then rhsQ n cash d F fr one i else (if j=i then 1 else 0) - (if fr i=false/\F i=true then shQ n d j i else 0)
def midS (n:Nat) (cash:Nat->Int) (d:Nat->Nat->Int) (i k j:Nat):Rat:=
 if j=n then cashQ cash i else (if j=i then 1 else 0) - (if j<k then shQ n d j i else 0)
def rch (D:Nat->Nat->Bool):Nat->Nat->Nat->Bool
 | 0,i,j=>D i j
 | k+1,i,j=>rch D k i j || (rch D k i k && rch D k k j)
section
variable {D:Nat->Nat->Bool}
theorem rch_le (k i j:Nat) (h:rch D k i j=true):rch D (k+1) i j=true:=by unfold rch;rw [h];rfl
theorem rch_edge (i j:Nat) (h:D i j=true):∀ k,rch D k i j=true
 | 0=>h
 | k+1=>rch_le k i j (rch_edge i j h k)
theorem rch_col (k i:Nat):rch D (k+1) i k=rch D k i k:=by
 show (rch D k i k || (rch D k i k && rch D k k k))=_;cases rch D k i k <;> simp
theorem rch_row (k j:Nat):rch D (k+1) k j=rch D k k j:=by
 show (rch D k k j || (rch D k k k && rch D k k j))=_;cases rch D k k j <;> simp
theorem rch_trans:∀ k l i j,l<k->rch D k i l=true->rch D k l j=true->rch D k i j=true
 | 0,l,i,j,h,_,_=>by omega
 | k+1,l,i,j,h,h1,h2=>by
  by_cases e:l=k
  ·subst e;rw [rch_col] at h1;rw [rch_row] at h2;show (rch D l i j || (rch D l i l && rch D l l j))=true;rw [h1,h2];simp
  ·have hl:l<k:=by omega
   have a:(rch D k i l || (rch D k i k && rch D k k l))=true:=h1;have b:(rch D k l j || (rch D k l k && rch D k k j))=true:=h2;show (rch D k i j || (rch D k i k && rch D k k j))=true;rw [Bool.or_eq_true,Bool.and_eq_true] at *
   rcases a with a | ⟨a1,a2⟩
   ·rcases b with b | ⟨b1,b2⟩
    ·exact .inl (rch_trans k l i j hl a b)
    ·exact .inr ⟨rch_trans k l i k hl a b1,b2⟩
   ·rcases b with b | ⟨b1,b2⟩
    ·exact .inr ⟨a1,rch_trans k l k j hl a2 b⟩
    ·exact .inr ⟨a1,b2⟩
end
def midR (D:Nat->Nat->Bool) (k i j r l:Nat):Bool:=if r<i\/(r=i/\l<j) then rch D (k+1) r l else rch D k r l
def updB (R:Nat->Nat->Bool) (i j:Nat) (x:Bool) (r l:Nat):Bool:=if r=i/\l=j then x else R r l
section
variable {D:Nat->Nat->Bool} {k i j n:Nat}
theorem midR_start (r l:Nat):rch D k r l=midR D k 0 0 r l:=by unfold midR;rw [if_neg (by omega)]
theorem midR_next (r l:Nat) (hl:l<n):midR D k i n r l=midR D k (i+1) 0 r l:=by
 unfold midR;by_cases e:r<i+1
 ·rw [if_pos (by omega),if_pos (.inl e)]
 ·rw [if_neg (by omega),if_neg (by omega)]
theorem midR_end (r l:Nat) (hr:r<n):midR D k n 0 r l=rch D (k+1) r l:=by unfold midR;rw [if_pos (.inl hr)]
theorem midR_here:midR D k i j i j=rch D k i j:=by unfold midR;rw [if_neg (by omega)]
theorem midR_col:midR D k i j i k=rch D k i k:=by unfold midR;split;exact rch_col k i;rfl
theorem midR_row:midR D k i j k j=rch D k k j:=by unfold midR;split;exact rch_row k j;rfl
theorem midR_step (r l:Nat):updB (midR D k i j) i j (rch D k i j || (rch D k i k && rch D k k j)) r l=midR D k i (j+1) r l:=by
 unfold updB midR;by_cases e:r=i/\l=j
 ·obtain⟨rfl,rfl⟩:=e;rw [if_pos ⟨rfl,rfl⟩,if_pos (by omega)];rfl
 ·rw [if_neg e];by_cases e2:r<i\/(r=i/\l<j)
  ·rw [if_pos e2,if_pos (by omega)]
  ·rw [if_neg e2,if_neg (by omega)]
end
theorem bm_s:Tryz.prog.underlying 128=some (.slice (Tryz.prog.elem 128)):=by kernel_rfl
theorem bm_z (W:World):(sizeOf (Tryz.prog.elem 128)).run Tryz.prog W = .ok 1 W:=by kernel_rfl
theorem ixBB (b n c i : Nat) (hi : i < n) (W : World) :
  (Instr.indexAt 128 (.slice (some ⟨b,0,none⟩) n c) (.int .i64 (i:Int))).run Tryz.prog W = .ok (.pointer (some ⟨b,i,none⟩)) W:=by
 have h:=run_indexAt_opt 128 bm_s bm_z (some ⟨b,0,none⟩) b 0 n c (fun _=>rfl) .i64 i (by omega) (by omega) W;simpa using h
theorem infoBs:(Tryz.prog.info? 44).map (fun i=>(i.zero,i.size,i.bytes))=some (some (.slice none 0 0),1,24):=by kernel_rfl
theorem infoB1:(Tryz.prog.info? 4).map (fun i=>(i.zero,i.size,i.bytes))=some (some (.bool false),1,1):=by kernel_rfl
structure BMat (w:World) (B g n:Nat) (rb rc:Nat->Nat) (R:Nat->Nat->Bool):Prop where
 hdr:∀ i,i<n->w.cell? ⟨g,i,none⟩=some (.slice (some ⟨rb i,0,none⟩) n (rc i))
 hf:∀ o,w.frozen? ⟨g,o,none⟩=false
 gB:B<=g
 gl:g<w.heap.size
 cell:∀ i j,i<n->j<n->w.cell? ⟨rb i,j,none⟩=some (.bool (R i j))
 f:∀ i,i<n->∀ o,w.frozen? ⟨rb i,o,none⟩=false
 lt:∀ i,i<n->rb i<w.heap.size
 rB:∀ i,i<n->B<=rb i
 ne:∀ i,i<n->rb i≠g
 apart:∀ i j,i<n->j<n->i≠j->rb i≠rb j
section
variable {w w' wi w5:World} {B B' g n:Nat} {rb rc:Nat->Nat} {R:Nat->Nat->Bool}
theorem BMat.below (h:BMat w B g n rb rc R) (hb:Below B' w w') (hB:w.heap.size<=B'):BMat w' B g n rb rc R:=
  ⟨fun i hi=>bel1 hb (h.hdr i hi) (jm h.gl hB),fun o=>(hb.frozen (p:=⟨g,o,none⟩) (jm h.gl hB)).trans (h.hf o),h.gB,jm h.gl hb.size,
   fun i j hi hj=>bel1 hb (h.cell i j hi hj) (jm (h.lt i hi) hB),fun i hi o=>(hb.frozen (p:=⟨rb i,o,none⟩) (jm (h.lt i hi) hB)).trans (h.f i hi o),fun i hi=>jm (h.lt i hi) hb.size,h.rB,h.ne,h.apart⟩
theorem BMat.congr {R':Nat->Nat->Bool} (h:BMat w B g n rb rc R) (e:∀ i j,i<n->j<n->R i j=R' i j):BMat w B g n rb rc R':=
 ⟨h.hdr,h.hf,h.gB,h.gl,fun i j hi hj=>by rw [<-e i j hi hj];exact h.cell i j hi hj,h.f,h.lt,h.rB,h.ne,h.apart⟩
theorem BMat.set (h:BMat w B g n rb rc R) {i j:Nat} (hi:i<n) (hj:j<n) (x:Bool):BMat (w.setCell ⟨rb i,j,none⟩ (.bool x)) B g n rb rc (updB R i j x):=by
 refine⟨fun r hr=>(far_set _ _ _ _ _ _ (h.ne i hi)).trans (h.hdr r hr),fun o=>by rw [World.frozen?_setCell];exact h.hf o,h.gB,by simp only [World.setCell,Array.size_modify];exact h.gl,fun r l hr hl=>?_,
  fun r hr o=>by rw [World.frozen?_setCell];exact h.f r hr o,fun r hr=>by simp only [World.setCell,Array.size_modify];exact h.lt r hr,h.rB,h.ne,h.apart⟩
 unfold updB;by_cases e:r=i
 ·subst e;by_cases e2:l=j
  ·subst e2;rw [if_pos ⟨rfl,rfl⟩];exact self_set (h.cell r l hr hl)
  ·rw [if_neg (fun q=>e2 q.2)];exact off_set (by omega) (h.cell r l hr hl)
 ·rw [if_neg (fun q=>e q.1)];exact (far_set _ _ _ _ _ _ (h.apart i r hi hr (fun q=>e q.symm))).trans (h.cell r l hr hl)
structure RowsB (B:Nat) (w:World) (q:Nat) (v:Value) (n:Nat) (rb rc:Nat->Nat) (R:Nat->Nat->Bool) (xs:List Value):Prop where
 own:w.ownsRow B 44 1 v q xs
 hdr:∀ r,r<q->xs[r]? = some (.slice (some ⟨rb r,0,none⟩) n (rc r))
 cell:∀ r j,r<q->j<n->w.cell? ⟨rb r,j,none⟩=some (.bool (R r j))
 f:∀ r,r<q->∀ o,w.frozen? ⟨rb r,o,none⟩=false
 lt:∀ r,r<q->rb r<w.heap.size
 rB:∀ r,r<q->B<=rb r
 ne:∀ r,r<q->some (rb r)≠v.ownBlock
 apart:∀ r s,r<q->s<q->r≠s->rb r≠rb s
theorem RowsB.start (w:World) (n:Nat) (R:Nat->Nat->Bool):RowsB w.heap.size (w.alloc (.cells #[] 44)) 0 (.slice (some ⟨w.heap.size,0,none⟩) 0 0) n (fun _=>0) (fun _=>0) R []:=
 ⟨World.ownsRow_made (e:=44) (base:=w.heap.size) (size:=1) w #[] 0 jl (by unfold maxLen;omega) rfl,fun r h=>by omega,fun r _ h=>by omega,fun r h=>by omega,fun r h=>by omega,fun r h=>by omega,fun r h=>by omega,fun r s h=>by omega⟩
theorem RowsB.push {q : Nat} {v v' : Value} {xs : List Value} {b c : Nat} {ob : Obj} (h : RowsB B w q v n rb rc R xs) (hB : B <= w.heap.size) (hb : Below w.heap.size w wi) (hrow : wi.ownsRow w.heap.size 4 1 (.slice (some ⟨b, 0, none⟩) n c) n ((List.range n).map (fun j => .bool (R q j)))) (hn : 0 < n)
  (hown:w5.ownsRow B 44 1 v' (q+1) (xs ++ [.slice (some ⟨b,0,none⟩) n c])) (hgrow:(wi.alloc ob).grownBy w5 v.ownBlock) (hblk:v'.ownBlock=v.ownBlock\/v'.ownBlock=some (wi.alloc ob).heap.size) :
  RowsB B w5 (q+1) v' n (setN rb q b) (setN rc q c) R (xs ++ [.slice (some ⟨b,0,none⟩) n c]):=by
 have hl:=h.own.1;have hv:∀ g,v.ownBlock=some g->g<w.heap.size:=fun g hg=>(h.own.lt g hg).2
 have hal:(wi.alloc ob).heap.size=wi.heap.size+1:=by simp
 obtain⟨hbb,hbl⟩:=hrow.lt b rfl;have hsz:=hb.size;have hb2:=hb.alloc hb.size ob
 have hne:∀ g,g<wi.heap.size->some g≠v.ownBlock->some g≠v'.ownBlock:=fun g hg h1=>by
  rcases hblk with e | e
  ·rw [e];exact h1
  ·rw [e,hal];intro q;have:=Option.some.inj q;omega
 have hbn:some b≠v.ownBlock:=fun q=>by have:=hv b q.symm;omega
 have hg5:∀ g,g<wi.heap.size->some g≠v.ownBlock->∀ o,w5.cell? ⟨g,o,none⟩=wi.cell? ⟨g,o,none⟩/\w5.frozen? ⟨g,o,none⟩=wi.frozen? ⟨g,o,none⟩:=fun g hg h1 o=>by
  have e:=hgrow.block g (by omega) h1;have b1:=boxes1 wi ob;exact⟨(World.cell?_of_block e).trans (b1.cell (p:=⟨g,o,none⟩) hg),(World.frozen?_of_block e).trans (b1.frozen (p:=⟨g,o,none⟩) hg)⟩
 refine⟨hown,fun r hr=>?_,fun r j hr hj=>?_,fun r hr o=>?_,fun r hr=>?_,fun r hr=>?_,fun r hr=>?_,fun r s hr hs hrs=>?_⟩
 ·by_cases e:r=q
  ·subst e;rw [setN_self,setN_self,List.getElem?_append_right (by omega),show r - xs.length=0 by omega];rfl
  ·rw [setN_ne _ _ e,setN_ne _ _ e,List.getElem?_append_left (by omega)];exact h.hdr r (by omega)
 ·by_cases e:r=q
  ·subst e;rw [setN_self,(hg5 b hbl hbn j).1,hrow.cellAt j (by omega)];simp [hj]
  ·rw [setN_ne _ _ e];have hr':r<q:=by omega
   rw [(hg5 (rb r) (by have:=h.lt r hr';omega) (h.ne r hr') j).1];exact bel1 hb (h.cell r j hr' hj) (h.lt r hr')
 ·by_cases e:r=q
  ·subst e;rw [setN_self,(hg5 b hbl hbn o).2];exact hrow.frozenAt o
  ·rw [setN_ne _ _ e];have hr':r<q:=by omega
   rw [(hg5 (rb r) (by have:=h.lt r hr';omega) (h.ne r hr') o).2];exact (hb.frozen (p:=⟨rb r,o,none⟩) (h.lt r hr')).trans (h.f r hr' o)
 ·have h5:=hgrow.size;by_cases e:r=q
  ·subst e;rw [setN_self];omega
  ·rw [setN_ne _ _ e];have:=h.lt r (by omega);omega
 ·by_cases e:r=q
  ·subst e;rw [setN_self];omega
  ·rw [setN_ne _ _ e];exact h.rB r (by omega)
 ·by_cases e:r=q
  ·subst e;rw [setN_self];exact hne b hbl hbn
  ·rw [setN_ne _ _ e];have hr':r<q:=by omega
   exact hne _ (by have:=h.lt r hr';omega) (h.ne r hr')
 ·by_cases e:r=q
  ·subst e;rw [setN_self,setN_ne _ _ (fun q=>hrs q.symm)];have:=h.lt s (by omega);omega
  ·by_cases e2:s=q
   ·subst e2;rw [setN_self,setN_ne _ _ e];have:=h.lt r (by omega);omega
   ·rw [setN_ne _ _ e,setN_ne _ _ e2];exact h.apart r s (by omega) (by omega) hrs
theorem RowsB.bmat {v:Value} {xs:List Value} (h:RowsB B w n v n rb rc R xs) (h0:0<n):∃ t vk,v = .slice (some ⟨t,0,none⟩) n vk/\BMat w B t n rb rc R:=by
 have h1:=h.own;rcases h1.2 with ⟨_,e⟩ | ⟨g,cap,cur,hv,hbg,hg,hcap,hml,hsz,htk⟩
 ·omega
 ·subst hv;have hlt:g<w.heap.size:=(Array.getElem?_eq_some_iff.1 hg).1;have hc:=h1.cells (g:=g) rfl;refine⟨g,cap,rfl,fun r hr=>?_,fun o=>h1.frozenAt o,hbg,hlt,h.cell,h.f,h.lt,h.rB,fun r hr e=>h.ne r hr (by rw [e];rfl),h.apart⟩;have:=hc r _ (h.hdr r hr);rw [add_at,Nat.zero_add] at this;exact this
end
def Bmx (w:World) (v:Value) (n:Nat) (R:Nat->Nat->Bool):Prop:=∃ B g c rb rc,v = .slice (some ⟨g,0,none⟩) n c/\BMat w B g n rb rc R
def bcs (F:Nat->Bool) (n:Nat):List Value:=(List.range n).map (fun j=>.bool (F j))
theorem bcs_succ (F:Nat->Bool) (n:Nat):bcs F (n+1)=bcs F n ++ [.bool (F n)]:=by unfold bcs;rw [List.range_succ,List.map_append];rfl
def owes (d:Nat->Nat->Int) (i j:Nat):Bool:=decide (0<d i j)
set_option maxHeartbeats 16000000 in
set_option maxRecDepth 100000 in
theorem reach_any (vd : Value) (n : Nat) (d : Nat -> Nat -> Int) (w : World) (hm : Mat w vd n (fun _ => n) d) (hn0 : 0 < n) (hn : n <= 8) :
  Calls Tryz.prog 88 #[vd] w fun e w'=>∃ v,e = .returned v/\Bmx w' v n (rch (owes d) n)/\Below w.heap.size w w':=by
 obtain⟨da,db,do_,dc,ra,rd,ro,rc,rfl,hdm⟩:=hm;obtain⟨i0,hinf,hz0,hz1,hz2⟩:=info_parts infoBs;obtain⟨i1,hinf1,hw0,hw1,hw2⟩:=info_parts infoB1;have HM:=jj hdm;have KW0:=jj (boxes1 w (.cells #[] 44));have RB0:=jj (RowsB.start w n (owes d));clear hdm;go_enter Tryz.func88,Tryz.ntmps88;go_wp2;go_loopw [3,4,5,6] (fun v3 v4 v5 v6 wr=>∃ i:Nat,i<=n/\v4 = .int .i64 (i:Nat)/\∃ va vk rb rc xs,v3 = .slice va i vk/\Hid (RowsB w.heap.size wr i (.slice va i vk) n rb rc (owes d) xs)/\Hid (Below w.heap.size w wr)) (fun _ v4 _ _ _=>n - (intOf v4).toNat)
 case atStart=>exact⟨0,by omega,rfl,_,0,_,_,[],rfl,RB0,KW0⟩
 case round=>
  clear RB0 KW0;obtain⟨i,hi,rfl,va,vk,rb,rcs,xs,rfl,RB,KW⟩:=hrel;obtain⟨wq,rfl⟩:∃ wq:World,wq=wr:=⟨_,rfl⟩;by_cases h:i<n
  ·have e1:decide ((i:Int)<(n:Int))=true:=by simpa using h
   have e1n:decide (i<n)=true:=by simpa using h
   have OB0:=jj (World.ownsRow_made (e:=4) (base:=wq.heap.size) (size:=1) wq #[] 0 jl (by unfold maxLen;omega) rfl);have VL0:=jj (boxes1 wq (.cells #[] 4));go_wp2;go_loopw [5,6] (fun v5 v6 wr=>∃ j:Nat,j<=n/\v6 = .int .i64 (j:Nat)/\∃ ba bk,v5 = .slice ba j bk/\Hid (wr.ownsRow wq.heap.size 4 1 (.slice ba j bk) j (bcs (owes d i) j))/\Hid (Below wq.heap.size wq wr)) (fun _ v6 _=>n - (intOf v6).toNat)
   case atStart=>exact⟨0,by omega,rfl,_,0,rfl,OB0,VL0⟩
   case round=>
    clear OB0 VL0;obtain⟨j,hj,rfl,ba,bk,rfl,OB,VL⟩:=hrel;by_cases h2:j<n
    ·have e2:decide ((j:Int)<(n:Int))=true:=by simpa using h2
     have e2n:decide (j<n)=true:=by simpa using h2
     have KWj:=jj (jb KW.out VL.out);have hM1:=HM.out.mono KWj.out jl;have ixm:=fun W=>ixM HM.out.top i dc h W
     have ixr:=fun W=>ixI (HM.out.row i h) j (rc i) h2 W
     have y0:=hM1.top.cell i h;have y1:=(hM1.row i h).cell j h2;simp only [ic] at y1;clear hM1;have HS:=jj VL.out.size;obtain⟨ow,how⟩:∃ b,b=decide (0<d i j):=⟨_,rfl⟩;have HOW:Hid (ow=owes d i j):=jj how
     go_wp2_with (first
      | (at_builtin;rw [<-how];refine wpList_append_own_at _ rfl (.tmp 24) (.tmp 33) 44 rfl wq.heap.size 4 i1 (.bool false) 1 1 Tryz.underlying44 hinf1 hw0 hw1 hw2 rfl (by decide) (.slice ba j bk) j (bcs (owes d i) j) rfl (OB.out.alloc _) ⟨wr.heap.size,0,none⟩ 1 1 [.bool ow] rfl rfl (new1 wr (.bool ow) 4) (one1 _ rfl) (by unfold maxLen;omega) (by omega) (by have:=HS.out;simp;omega) ?_;intro v' w5 hown hgrow _ hbk;rw [HOW.out,<-bcs_succ] at hown;have HOWN:=jj hown;obtain⟨va5,vk5,rfl⟩:=own_shape hown;have V5:=jj ((VL.out.alloc VL.out.size _).grown hgrow (by have:=HS.out;simp;omega) (fun kk e=>(OB.out.lt kk e).1));clear hown hgrow hbk))
     go_roundw
     case rel=>exact⟨j+1,by omega,by go_num,va5,vk5,rfl,HOWN,V5⟩
     case measure=>simp [intOf];omega
    ·obtain rfl:n=j:=by omega
     have e2:decide ((n:Int)<(n:Int))=false:=by simp
     have HS:=jj (jb KW.out VL.out);have HS2:=jj HS.out.size;obtain⟨g,hg,hgb,-⟩:=own_some OB.out hn0;subst hg
     go_wp2_with (first
      | (at_builtin;refine wpList_append_own_at _ rfl (.tmp 35) (.tmp 37) 128 rfl w.heap.size 44 i0 (.slice none 0 0) 1 24 Tryz.underlying128 hinf hz0 hz1 hz2 rfl (by decide) (.slice va i vk) i xs rfl ((own_kept RB.out.own VL.out).alloc _) ⟨wr.heap.size,0,none⟩ 1 1 [.slice (some ⟨g,0,none⟩) n bk] rfl rfl (new1 wr (.slice (some ⟨g,0,none⟩) n bk) 44) (one1 _ rfl) (by unfold maxLen;omega) (by omega) (by have:=HS2.out;simp;omega) ?_;intro v' w5 hown hgrow _ hblk;obtain⟨va2,vk2,rfl⟩:=own_shape hown;have R5:=jj (RB.out.push KW.out.size VL.out OB.out hn0 hown hgrow hblk);have K5:=jj ((HS.out.alloc HS.out.size _).grown hgrow (by have:=HS2.out;simp;omega) (fun kk e=>(RB.out.own.lt kk e).1));clear hown hgrow hblk))
     go_roundw
     case rel=>exact⟨i+1,by omega,by go_num,va2,vk2,_,_,_,rfl,R5,K5⟩
     case measure=>simp [intOf];omega
  ·obtain rfl:n=i:=by omega
   have e1:decide ((n:Int)<(n:Int))=false:=by simp
   obtain⟨t,tk,hv,hQ⟩:=RB.out.bmat hn0;injection hv with hv1 hv2 hv3;subst hv1;subst hv3;have BM0:=jj hQ;clear hQ RB;go_wp2;go_loopw [7,8,9] (fun v7 v8 v9 wr=>∃ k:Nat,k<=n/\v7 = .int .i64 (k:Nat)/\Hid (BMat wr w.heap.size t n rb rcs (rch (owes d) k))/\Hid (Below w.heap.size w wr)) (fun v7 _ _ _=>n - (intOf v7).toNat)
   case atStart=>exact⟨0,by omega,rfl,BM0,KW⟩
   case round=>
    clear BM0 KW;obtain⟨k,hk,rfl,BM,KW⟩:=hrel;by_cases h1:k<n
    ·have e2:decide ((k:Int)<(n:Int))=true:=by simpa using h1
     have e2n:decide (k<n)=true:=by simpa using h1
     go_wp2;go_loopw [8,9] (fun v8 v9 wr=>∃ i:Nat,i<=n/\v8 = .int .i64 (i:Nat)/\Hid (BMat wr w.heap.size t n rb rcs (midR (owes d) k i 0))/\Hid (Below w.heap.size w wr)) (fun v8 _ _=>n - (intOf v8).toNat)
     case atStart=>exact⟨0,by omega,rfl,jj (BM.out.congr (fun r l _ _=>midR_start r l)),KW⟩
     case round=>
      clear BM KW;obtain⟨i,hi2,rfl,BM,KW⟩:=hrel;by_cases h2:i<n
      ·have e3:decide ((i:Int)<(n:Int))=true:=by simpa using h2
       have e3n:decide (i<n)=true:=by simpa using h2
       go_wp2;go_loopw [9] (fun v9 wr=>∃ j:Nat,j<=n/\v9 = .int .i64 (j:Nat)/\Hid (BMat wr w.heap.size t n rb rcs (midR (owes d) k i j))/\Hid (Below w.heap.size w wr)) (fun v9 _=>n - (intOf v9).toNat)
       case atStart=>exact⟨0,by omega,rfl,BM,KW⟩
       case round=>
        clear BM KW;obtain⟨j,hj2,rfl,BM,KW⟩:=hrel;obtain⟨wj,rfl⟩:∃ wj:World,wj=wr:=⟨_,rfl⟩;by_cases h3:j<n
        ·have e4:decide ((j:Int)<(n:Int))=true:=by simpa using h3
         have e4n:decide (j<n)=true:=by simpa using h3
         have ixi:=fun W=>ixBB t n vk i h2 W
         have ixk:=fun W=>ixBB t n vk k h1 W
         have ixij:=fun W=>ixB (rb i) n (rcs i) j h3 W
         have ixik:=fun W=>ixB (rb i) n (rcs i) k h1 W
         have ixkj:=fun W=>ixB (rb k) n (rcs k) j h3 W
         have y0:=BM.out.hdr i h2;have y1:=BM.out.hdr k h1;have z0:=BM.out.cell i j h2 h3;have z1:=BM.out.cell i k h2 h1;have z2:=BM.out.cell k j h1 h3;have zf:=BM.out.f i h2;rw [midR_here] at z0;rw [midR_col] at z1;rw [midR_row] at z2
         have ST:Hid (∀ b,b=(rch (owes d) k i j || (rch (owes d) k i k && rch (owes d) k k j))->BMat (wj.setCell ⟨rb i,j,none⟩ (.bool b)) w.heap.size t n rb rcs (midR (owes d) k i (j+1))):=jj (fun b hb=>by
          subst hb;exact (BM.out.set h2 h3 _).congr (fun r l _ _=>midR_step r l))
         have KS:Hid (∀ b,Below w.heap.size w (wj.setCell ⟨rb i,j,none⟩ (.bool b))):=jj (fun b=>KW.out.setCell (p:=⟨rb i,j,none⟩) (BM.out.rB i h2) _);have D2:Hid (∀ {w1:World} {R},BMat w1 w.heap.size t n rb rcs R->BMat w1.drew w.heap.size t n rb rcs R):=jj (fun h=>h.below (Below.refl _ _).drew jl);rcases b0:rch (owes d) k i j with _ | _ <;> rcases b1:rch (owes d) k i k with _ | _ <;> rcases b2:rch (owes d) k k j with _ | _ <;> rw [b0] at z0 ST <;> rw [b1] at z1 ST <;> rw [b2] at z2 ST <;> clear BM KW b0 b1 b2
         all_goals
          go_wp2
          go_region
         all_goals
          go_wp2;go_roundw
          case rel=>exact⟨j+1,by omega,by go_num,jj (D2.out (ST.out _ rfl)),jj (KS.out _).drew⟩
          case measure=>simp [intOf];omega
        ·obtain rfl:n=j:=by omega
         have e4:decide ((n:Int)<(n:Int))=false:=by simp
         go_wp2;go_roundw
         case rel=>exact⟨i+1,by omega,by go_num,jj (BM.out.congr (fun r l _ hl=>midR_next r l hl)),KW⟩
         case measure=>simp [intOf];omega
      ·obtain rfl:n=i:=by omega
       have e3:decide ((n:Int)<(n:Int))=false:=by simp
       go_wp2;go_roundw
       case rel=>exact⟨k+1,by omega,by go_num,jj (BM.out.congr (fun r l hr _=>midR_end r l hr)),KW⟩
       case measure=>simp [intOf];omega
    ·obtain rfl:n=k:=by omega
     have e2:decide ((n:Int)<(n:Int))=false:=by simp
     go_wp2;go_ret;exact⟨_,rfl,⟨_,t,vk,rb,rcs,rfl,BM.out⟩,KW.out⟩
end Go.Proofs.YtgmopcncbpdniaaGreat
