import Derived.Test.YtgmopcncbpdniaaGreatKShelf
import Derived.Test.YtgmopcncbpdniaaGreatKCopy
import Derived.Laws.CopyOwn
import Derived.Test.YtgmopcncbpdniaaGreatKLin2
import Derived.Test.YtgmopcncbpdniaaGreatKInt5
import Derived.Test.YtgmopcncbpdniaaGreatKBase
set_option maxHeartbeats 2000000
set_option maxRecDepth 100000
set_option linter.unusedVariables false
set_option linter.unusedSimpArgs false
namespace Go.Proofs.YtgmopcncbpdniaaGreat
open Go.RowKit
attribute [local go_sem ↓] Go.wp_at_zero Go.wp_at_succ
def repV (k:Nat) (i:Nat):Value:=if i<k then .int .i64 (-1) else .int .i64 0
theorem mul1n (n:Nat) (hn:n<=8) (W:World):Calls Tryz.prog 150 #[.int .u64 1,.int .u64 (n:Nat)] W fun e w'=>e = .returned (.tuple #[.int .u64 0,.int .u64 (n:Nat)])/\W=w':=by
 have h:=Tryz.bits_Mul 1 n (by omega) (by omega) W;refine Calls.mono (show Calls Tryz.prog 150 #[.int .u64 1,.int .u64 (n:Nat)] W _ from h) ?_;rintro e w' ⟨rfl,rfl⟩;refine⟨?_,rfl⟩;rw [Nat.one_mul,Nat.div_eq_of_lt (by omega),Nat.mod_eq_of_lt (by omega)];rfl
theorem copy_in (w:World) (b n k B:Nat) (hk:0<k) (hkn:k<n) (hB:B<=b) (h:w.rowIs b 3 n (repV k)) :
  ∃ w',(Builtin.copy_ #[24,24] 3 #[.slice (some ⟨b,k,none⟩) (n - k) (n - k),.slice (some ⟨b,0,none⟩) k n]).run Tryz.prog w = .ok (.int .i64 (Nat.min k (n - k):Nat)) w'/\
   w'.rowIs b 3 n (repV (k+Nat.min k (n - k)))/\w'.heap.size=w.heap.size/\∀ w0,Below B w0 w->Below B w0 w':=by
 obtain⟨c,hb,hn,hc⟩:=h;have hm:Nat.min k (n - k)<=n - k:=Nat.min_le_right _ _;have hm2:Nat.min k (n - k)<=k:=Nat.min_le_left _ _;generalize hmm:Nat.min k (n - k)=m at hm hm2 ⊢
 have e:=run_copy_rowS (P:=Tryz.prog) w 24 24 3 3 b k (n - k) (n - k) ⟨b,0,none⟩ k n c 3 (List.replicate m (.int .i64 (-1))) 1 m Tryz.underlying24 (by kernel_rfl) hb hmm.symm (by simp)
  (fun j v hj=>by
   have hjm:j<m:=by simpa using (List.getElem?_eq_some_iff.1 hj).1
   have hadd:(⟨b,0,none⟩:Addr).add j=⟨b,j,none⟩:=by unfold Addr.add;split <;> simp_all
   rw [hadd];have:v = .int .i64 (-1):=by simp [hjm] at hj;exact hj.symm
   have hcell:w.cell? ⟨b,j,none⟩=some (repV k j):=World.rowIs.cell ⟨c,hb,hn,hc⟩ (by omega);rw [hcell,this];unfold repV;rw [if_pos (by omega)])
  (by rw [List.length_replicate];omega) (fun v hv=>by rw [List.eq_of_mem_replicate hv];rfl)
 refine⟨_,e,⟨_,setRow_heap w b c _ _ _ hb,?_,fun i hi=>?_⟩,size_setRow _ _ _,fun w0 hw=>below_setRow hw hB _⟩
 ·simp;omega
 ·have hci:=hc i hi;simp only [List.getElem?_toArray,List.length_replicate];by_cases h1:i<k
  ·rw [List.append_assoc,List.getElem?_append_left (by simp;omega),List.getElem?_take_of_lt h1,Array.getElem?_toList,hci];unfold repV;rw [if_pos h1,if_pos (by omega)]
  ·by_cases h2:i<k+m
   ·rw [List.append_assoc,List.getElem?_append_right (by simp;omega),List.getElem?_append_left (by simp;omega)];rw [List.getElem?_replicate,if_pos (by simp;omega)];unfold repV;rw [if_pos h2]
   ·rw [List.getElem?_append_right (by simp;omega),List.getElem?_drop,Array.getElem?_toList];have:k+m+(i - (List.take k c.toList ++ List.replicate m (Value.int IntKind.i64 (-1))).length)=i:=by simp;omega
    rw [this,hci];unfold repV;rw [if_neg h1,if_neg h2]
theorem copy_first (w:World) (b n c:Nat) (hn:0<n) (hb:w.cell? ⟨b,0,none⟩=some (.int .i64 (-1))) :
  ∃ w',(Builtin.copy_ #[24,24] 3 #[.slice (some ⟨w.heap.size,0,none⟩) n n,.slice (some ⟨b,0,none⟩) 1 c]).run Tryz.prog (w.alloc (.cells (madeCells #[.int .i64 0] n) 3)) = .ok (.int .i64 1) w'/\
   w'.rowIs w.heap.size 3 n (repV 1)/\w'.heap.size=w.heap.size+1/\Below w.heap.size w w':=by
 have hz:(madeCells #[Value.int .i64 0] n).size=n:=size_madeCells _ _;have hnew:(w.alloc (.cells (madeCells #[.int .i64 0] n) 3)).heap[w.heap.size]? = some (.cells (madeCells #[.int .i64 0] n) 3 (0,0)):=by unfold World.alloc;simp
 have e:=run_copy_rowS (P:=Tryz.prog) (w.alloc (.cells (madeCells #[.int .i64 0] n) 3)) 24 24 3 3 w.heap.size 0 n n ⟨b,0,none⟩ 1 c (madeCells #[.int .i64 0] n) 3
  [.int .i64 (-1)] 1 1 Tryz.underlying24 (by kernel_rfl) hnew (by show 1=Nat.min 1 n;exact (Nat.min_eq_left hn).symm) rfl (fun j v hj=>by
   match j,hj with
   | 0,hj=>
    simp at hj;subst hj;exact (World.cell?_alloc_some w _ _ (by show (w.cell? ⟨b,0,none⟩).isSome=true;rw [hb];rfl)).trans hb) (by rw [hz];simp;omega) (fun v hv=>by simp at hv;rw [hv];rfl)
 refine⟨_,e,⟨_,setRow_heap _ _ _ _ _ _ hnew,?_,fun i hi=>?_⟩,by rw [size_setRow];simp,below_setRow ((jr w).alloc jl _) jl _⟩
 ·simp;omega
 ·have hm:(madeCells #[Value.int .i64 0] n)[i]? = some (.int .i64 0):=by simp [madeCells,hi,Nat.mod_one]
  unfold repV;by_cases h1:i<1
  ·obtain rfl:i=0:=by omega
   simp
  ·rw [if_neg h1];simp only [List.getElem?_toArray];rw [List.getElem?_append_right (by simp;omega),List.getElem?_drop,Array.getElem?_toList];have:0 + [Value.int IntKind.i64 (-1)].length+(i - (List.take 0 (madeCells #[Value.int .i64 0] n).toList ++ [Value.int IntKind.i64 (-1)]).length)=i:=by simp;omega
   rw [this];exact hm
theorem repeat_neg (b c n:Nat) (w:World) (h0:0<n) (hn:n<=8) (hb:w.cell? ⟨b,0,none⟩=some (.int .i64 (-1))) :
  Calls Tryz.prog 140 #[.slice (some ⟨b,0,none⟩) 1 c,.int .i64 (n:Nat)] w fun e w'=>e = .returned (.slice (some ⟨w.heap.size,0,none⟩) n n)/\w'.rowIs w.heap.size 3 n (repV n)/\w'.heap.size=w.heap.size+1/\Below w.heap.size w w':=by
 have hmk:=run_make_row' (P:=Tryz.prog) 24 3 (.int .i64 0) 8 Tryz.underlying24 infoI rfl .i64 .i64 n (by omega) (by omega);have g0:(0:Int)<(n:Int):=by omega
 have hw1:IntKind.u64.wrap (n:Int)=(n:Int):=by rw [IntKind.wrap_u64];omega
 have hw2:IntKind.i64.wrap (n:Int)=(n:Int):=by rw [IntKind.wrap_i64];omega
 have hlim:¬ (n:Int) > 9223372036854775807:=by omega
 obtain⟨wC,hcp,HR,hsz,HB⟩:=copy_first w b n c h0 hb;have HR:=jj HR;have HB:=jj HB;have HSZ:=jj hsz;clear hsz;go_enter Tryz.func140,Tryz.ntmps140
 go_wp2_with (first
  | (go_at_call 150;(with_reducible refine (mul1n n hn _).mono ?_);rintro e w1 ⟨rfl,rfl⟩))
 go_loopw [8] (fun v8 wr=>∃ k:Nat,0<k/\k<=n/\v8 = .int .i64 (k:Nat)/\Hid (wr.rowIs w.heap.size 3 n (repV k))/\Hid (wr.heap.size=w.heap.size+1)/\Hid (Below w.heap.size w wr)) (fun v8 _=>n - (intOf v8).toNat)
 case atStart=>exact⟨1,by omega,by omega,rfl,HR,HSZ,HB⟩
 case round=>
  clear HR HSZ HB;obtain⟨k,k0,hk,rfl,HR,HSZ,HB⟩:=hrel;by_cases h:k<n
  ·obtain⟨wD,hc2,HR2,hsz2,HB2⟩:=copy_in wr.drew w.heap.size n k w.heap.size k0 h jl HR.out;have HR2:=jj HR2;have HB2:=jj (HB2 _ HB.out.drew);have HSZ2:=jj hsz2;clear hsz2;have hm1:Nat.min k (n - k)<=n - k:=Nat.min_le_right _ _;have hm0:0<Nat.min k (n - k):=by show 0<min k (n - k);omega
   generalize Nat.min k (n - k)=m at *
   have hwk:IntKind.i64.wrap ((k:Int)+(m:Int))=((k+m:Nat):Int):=by rw [IntKind.wrap_i64];omega
   have g1:(0:Int)<=(k:Int):=Int.natCast_nonneg k;have g2:(k:Int)<(n:Int):=by omega
   have g3:(k:Int)<=(n:Int):=by omega
   go_wp2
   go_region
   go_wp2;go_roundw
   case rel=>exact⟨k+m,by omega,by omega,by go_num,HR2,jj (HSZ2.out.trans HSZ.out),HB2⟩
   case measure=>simp [intOf];omega
  ·obtain rfl:k=n:=by omega
   go_wp2;go_ret;exact⟨rfl,HR.out,HSZ.out,HB.out⟩
abbrev zR:Array Value:=#[.bool false,.slice none 0 0,.bool false,.slice none 0 0]
theorem mkRn (n:Nat) (hn:n<=1000) (W:World):(Instr.makeSlice 73 (.int .i64 (n:Nat)) (.int .i64 (n:Nat))).run Tryz.prog W = .ok (.slice (some ⟨W.heap.size,0,none⟩) n n) (W.alloc (.cells (madeCells zR (n*4)) 92)):=by
 obtain⟨i0,hi,hz0,hz1,hz2⟩:=info_parts infoR;have h:=run_make (P:=Tryz.prog) W 73 92 i0 _ Tryz.underlying73 hi hz0 .i64 .i64 n n (by omega) (by omega) (by rw [hz2];omega) (by omega);have e:(Value.agg #[.bool false,.slice none 0 0,.bool false,.slice none 0 0]).cells=zR:=by kernel_rfl
 rw [h,hz1,e,Int.toNat_natCast]
theorem mkMn (n:Nat) (hn:n<=1000) (W:World):(Instr.makeSlice 154 (.int .i64 (n:Nat)) (.int .i64 (n:Nat))).run Tryz.prog W = .ok (.slice (some ⟨W.heap.size,0,none⟩) n n) (W.alloc (.cells (madeCells #[.slice none 0 0] n) 73)):=
 run_make_row' (P:=Tryz.prog) 154 73 (.slice none 0 0) 24 Tryz.underlying154 infoRs rfl .i64 .i64 n (by omega) (by omega) W
def pat4 (x0 x1 x2 x3:Value) (i:Nat):Value:=match i % 4 with | 0=>x0 | 1=>x1 | 2=>x2 | _=>x3
def zero4:Nat->Value:=pat4 (.bool false) (.slice none 0 0) (.bool false) (.slice none 0 0)
theorem made_zero4 (n i:Nat) (h:i<n):(madeCells zR n)[i]? = some (zero4 i):=by
 have e:(madeCells zR n)[i]? = some (zR[i % 4]!):=by
  unfold madeCells;rw [Array.getElem?_map,Array.getElem?_range,if_pos h];rfl
 rw [e];unfold zero4 pat4;have h4:i % 4<4:=Nat.mod_lt _ (by omega);rcases (by omega:i % 4=0\/i % 4=1\/i % 4=2\/i % 4=3) with h | h | h | h <;> rw [h] <;> rfl
def repR (p:Nat->Value) (k:Nat) (i:Nat):Value:=if i<k*4 then p i else zero4 i
theorem row_made (w:World) (n:Nat) (p:Nat->Value):(w.alloc (.cells (madeCells zR (n*4)) 92)).rowIs w.heap.size 92 (n*4) (repR p 0):=
 ⟨madeCells zR (n*4),by unfold World.alloc;simp,size_madeCells _ _,fun i hi=>by rw [made_zero4 _ _ hi];unfold repR;rw [if_neg (by omega)]⟩
theorem RowP.made (w:World) (n:Nat) (q:Nat->Rat) (K:Nat):RowP (w.alloc (.cells (madeCells zR (n*4)) 92)) w.heap.size n (fun _=>False) q K:=by
 have h:=row_made w n zero4
 have e:∀ j r,r<4->j<n->repR zero4 0 (j*4+r)=pat4 (.bool false) (.slice none 0 0) (.bool false) (.slice none 0 0) r:=fun j r hr hj=>by
  unfold repR;rw [if_neg (by omega)];unfold zero4 pat4;rw [show (j*4+r) % 4=r % 4 by omega]
 refine⟨fun j hj=>⟨false,none,0,0,none,0,0,⟨?_,?_,?_,?_,h.lt⟩,fun p=>p.elim⟩,fun o=>h.frozen o,h.lt⟩
 ·rw [h.cell (i:=j*4) (by omega)];congr 1;exact e j 0 (by omega) hj
 ·rw [h.cell (i:=j*4+1) (by omega)];congr 1;exact e j 1 (by omega) hj
 ·rw [h.cell (i:=j*4+2) (by omega)];congr 1;exact e j 2 (by omega) hj
 ·rw [h.cell (i:=j*4+3) (by omega)];congr 1;exact e j 3 (by omega) hj
theorem pat4_one (x0 x1 x2 x3:Value) (h0:x0.oneCell'=true) (h1:x1.oneCell'=true) (h2:x2.oneCell'=true) (h3:x3.oneCell'=true) (i:Nat):(pat4 x0 x1 x2 x3 i).oneCell'=true:=by
 unfold pat4;split <;> assumption
def patL (p:Nat->Value) (m:Nat):List Value:=(List.range m).map p
theorem patL_get (p:Nat->Value) (m i:Nat) (h:i<m):(patL p m)[i]? = some (p i):=by simp [patL,h]
theorem patL_len (p:Nat->Value) (m:Nat):(patL p m).length=m:=by simp [patL]
theorem copyR_in (w:World) (b n k B:Nat) (p:Nat->Value) (hp:∀ i j,p (i+j*4)=p i) (hp1:∀ i,(p i).oneCell'=true) (hk:0<k) (hkn:k<n) (hB:B<=b) (h:w.rowIs b 92 (n*4) (repR p k)) :
  ∃ w',(Builtin.copy_ #[73,73] 3 #[.slice (some ⟨b,k*4,none⟩) (n - k) (n - k),.slice (some ⟨b,0,none⟩) k n]).run Tryz.prog w = .ok (.int .i64 (Nat.min k (n - k):Nat)) w'/\
   w'.rowIs b 92 (n*4) (repR p (k+Nat.min k (n - k)))/\w'.heap.size=w.heap.size/\∀ w0,Below B w0 w->Below B w0 w':=by
 obtain⟨c,hb,hn,hc⟩:=h;have hm:Nat.min k (n - k)<=n - k:=Nat.min_le_right _ _;have hm2:Nat.min k (n - k)<=k:=Nat.min_le_left _ _;generalize hmm:Nat.min k (n - k)=m at hm hm2 ⊢
 have e:=run_copy_rowS (P:=Tryz.prog) w 73 73 3 92 b (k*4) (n - k) (n - k) ⟨b,0,none⟩ k n c 92 (patL p (m*4)) 4 m Tryz.underlying73 (by kernel_rfl) hb hmm.symm (patL_len _ _)
  (fun j v hj=>by
   have hjm:j<m*4:=by have:=(List.getElem?_eq_some_iff.1 hj).1;rw [patL_len] at this;exact this
   rw [add_at,Nat.zero_add];rw [patL_get _ _ _ hjm] at hj;have hcell:w.cell? ⟨b,j,none⟩=some (repR p k j):=World.rowIs.cell ⟨c,hb,hn,hc⟩ (by omega);rw [hcell,<-hj];unfold repR;rw [if_pos (by omega)])
  (by rw [patL_len];omega) (fun v hv=>by simp [patL] at hv;obtain⟨a,_,rfl⟩:=hv;exact hp1 a)
 refine⟨_,e,⟨_,setRow_heap w b c _ _ _ hb,?_,fun i hi=>?_⟩,size_setRow _ _ _,fun w0 hw=>below_setRow hw hB _⟩
 ·simp [patL_len];omega
 ·have hci:=hc i hi;simp only [List.getElem?_toArray,patL_len];by_cases h1:i<k*4
  ·rw [List.append_assoc,List.getElem?_append_left (by simp;omega),List.getElem?_take_of_lt h1,Array.getElem?_toList,hci];unfold repR;rw [if_pos h1,if_pos (by omega)]
  ·by_cases h2:i<(k+m)*4
   ·have hl:(List.take (k*4) c.toList).length=k*4:=by simp;omega
    rw [List.append_assoc,List.getElem?_append_right (by omega),List.getElem?_append_left (by rw [patL_len];omega),hl,patL_get _ _ _ (by omega)];unfold repR;rw [if_pos h2];have:=hp (i - k*4) k;rw [show i - k*4+k*4=i by omega] at this;rw [this]
   ·have hl:(List.take (k*4) c.toList ++ patL p (m*4)).length=k*4+m*4:=by simp [patL_len];omega
    rw [List.getElem?_append_right (by omega),List.getElem?_drop,Array.getElem?_toList,hl,show k*4+m*4+(i - (k*4+m*4))=i by omega,hci];unfold repR;rw [if_neg h1,if_neg h2]
theorem copyR_first (w:World) (b n c:Nat) (p:Nat->Value) (hp1:∀ i,(p i).oneCell'=true) (hn:0<n) (hb:∀ i,i<4->w.cell? ⟨b,i,none⟩=some (p i)) :
  ∃ w',(Builtin.copy_ #[73,73] 3 #[.slice (some ⟨w.heap.size,0,none⟩) n n,.slice (some ⟨b,0,none⟩) 1 c]).run Tryz.prog (w.alloc (.cells (madeCells zR (n*4)) 92)) = .ok (.int .i64 1) w'/\
   w'.rowIs w.heap.size 92 (n*4) (repR p 1)/\w'.heap.size=w.heap.size+1/\Below w.heap.size w w':=by
 have hz:(madeCells zR (n*4)).size=n*4:=size_madeCells _ _;have hnew:(w.alloc (.cells (madeCells zR (n*4)) 92)).heap[w.heap.size]? = some (.cells (madeCells zR (n*4)) 92 (0,0)):=by unfold World.alloc;simp
 have e:=run_copy_rowS (P:=Tryz.prog) (w.alloc (.cells (madeCells zR (n*4)) 92)) 73 73 3 92 w.heap.size 0 n n ⟨b,0,none⟩ 1 c (madeCells zR (n*4)) 92
  (patL p 4) 4 1 Tryz.underlying73 (by kernel_rfl) hnew (by show 1=Nat.min 1 n;exact (Nat.min_eq_left hn).symm) rfl (fun j v hj=>by
   have hj4:j<4:=by have:=(List.getElem?_eq_some_iff.1 hj).1;rw [patL_len] at this;exact this
   rw [patL_get _ _ _ hj4] at hj;rw [add_at,Nat.zero_add,<-hj];exact (World.cell?_alloc_some w _ _ (by show (w.cell? ⟨b,j,none⟩).isSome=true;rw [hb j hj4];rfl)).trans (hb j hj4)) (by rw [hz,patL_len];omega) (fun v hv=>by simp [patL] at hv;obtain⟨a,_,rfl⟩:=hv;exact hp1 a)
 refine⟨_,e,⟨_,setRow_heap _ _ _ _ _ _ hnew,?_,fun i hi=>?_⟩,by rw [size_setRow];simp,below_setRow ((jr w).alloc jl _) jl _⟩
 ·simp [patL_len,hz];omega
 ·have hm:=made_zero4 (n*4) i hi;unfold repR;simp only [List.getElem?_toArray,List.take_zero,List.nil_append];by_cases h1:i<1*4
  ·rw [if_pos h1,List.getElem?_append_left (by rw [patL_len];omega),patL_get _ _ _ (by omega)]
  ·rw [if_neg h1,List.getElem?_append_right (by rw [patL_len];omega),List.getElem?_drop,Array.getElem?_toList,patL_len,show 0+4+(i - 4)=i by omega];exact hm
theorem repeatR_any (b c n:Nat) (p:Nat->Value) (hp:∀ i j,p (i+j*4)=p i) (hp1:∀ i,(p i).oneCell'=true) (w:World) (h0:0<n) (hn:n<=8) (hb:∀ i,i<4->w.cell? ⟨b,i,none⟩=some (p i)) :
  Calls Tryz.prog 138 #[.slice (some ⟨b,0,none⟩) 1 c,.int .i64 (n:Nat)] w fun e w'=>e = .returned (.slice (some ⟨w.heap.size,0,none⟩) n n)/\w'.rowIs w.heap.size 92 (n*4) (repR p n)/\w'.heap.size=w.heap.size+1/\Below w.heap.size w w':=by
 have hmk:=mkRn n (by omega);have g0:(0:Int)<(n:Int):=by omega
 have hw1:IntKind.u64.wrap (n:Int)=(n:Int):=by rw [IntKind.wrap_u64];omega
 have hw2:IntKind.i64.wrap (n:Int)=(n:Int):=by rw [IntKind.wrap_i64];omega
 have hlim:¬ (n:Int) > 9223372036854775807:=by omega
 obtain⟨wC,hcp,HR,hsz,HB⟩:=copyR_first w b n c p hp1 h0 hb;have HR:=jj HR;have HB:=jj HB;have HSZ:=jj hsz;have HP:=jj hp;have HP1:=jj hp1;clear hsz hb hp hp1;have hul:=rats_z;go_enter Tryz.func138,Tryz.ntmps138
 go_wp2_with (first
  | (go_at_call 150;(with_reducible refine (mul1n n hn _).mono ?_);rintro e w1 ⟨rfl,rfl⟩))
 go_loopw [8] (fun v8 wr=>∃ k:Nat,0<k/\k<=n/\v8 = .int .i64 (k:Nat)/\Hid (wr.rowIs w.heap.size 92 (n*4) (repR p k))/\Hid (wr.heap.size=w.heap.size+1)/\Hid (Below w.heap.size w wr)) (fun v8 _=>n - (intOf v8).toNat)
 case atStart=>exact⟨1,by omega,by omega,rfl,HR,HSZ,HB⟩
 case round=>
  clear HR HSZ HB;obtain⟨k,k0,hk,rfl,HR,HSZ,HB⟩:=hrel;by_cases h:k<n
  ·obtain⟨wD,hc2,HR2,hsz2,HB2⟩:=copyR_in wr.drew w.heap.size n k w.heap.size p HP.out HP1.out k0 h jl HR.out;have HR2:=jj HR2;have HB2:=jj (HB2 _ HB.out.drew);have HSZ2:=jj hsz2;clear hsz2;have hm1:Nat.min k (n - k)<=n - k:=Nat.min_le_right _ _;have hm0:0<Nat.min k (n - k):=by show 0<min k (n - k);omega
   generalize Nat.min k (n - k)=m at *
   have hwk:IntKind.i64.wrap ((k:Int)+(m:Int))=((k+m:Nat):Int):=by rw [IntKind.wrap_i64];omega
   have g1:(0:Int)<=(k:Int):=Int.natCast_nonneg k;have g2:(k:Int)<(n:Int):=by omega
   have g3:(k:Int)<=(n:Int):=by omega
   go_wp2
   go_region
   go_wp2;go_roundw
   case rel=>exact⟨k+m,by omega,by omega,by go_num,HR2,jj (HSZ2.out.trans HSZ.out),HB2⟩
   case measure=>simp [intOf];omega
  ·obtain rfl:k=n:=by omega
   go_wp2;go_ret;exact⟨rfl,HR.out,HSZ.out,HB.out⟩
theorem repeat_rat (b c n:Nat) (x:Rat) (K:Nat) (s:Bool) (a a2:Option Addr) (m e m2 e2:Nat) (w:World) (h0:0<n) (hn:n<=8) (h:Own4 w b (.bool s) (.slice a m e) (.bool false) (.slice a2 m2 e2)) (hv:RatIs w (.agg #[.bool s,.slice a m e,.bool false,.slice a2 m2 e2]) x K) :
  Calls Tryz.prog 138 #[.slice (some ⟨b,0,none⟩) 1 c,.int .i64 (n:Nat)] w fun ex w'=>∃ g,ex = .returned (.slice (some ⟨g,0,none⟩) n n)/\RatRow w' g n (fun _=>x) K/\w.heap.size<=g/\Below w.heap.size w w':=by
 refine (repeatR_any b c n (pat4 (.bool s) (.slice a m e) (.bool false) (.slice a2 m2 e2)) (fun i j=>by unfold pat4;rw [show (i+j*4) % 4=i % 4 by omega]) (pat4_one _ _ _ _ rfl rfl rfl rfl) w h0 hn (fun i hi=>?_)).mono ?_
 ·rcases (by omega:i=0\/i=1\/i=2\/i=3) with rfl | rfl | rfl | rfl
  ·exact h.c0
  ·exact h.c1
  ·exact h.c2
  ·exact h.c3
 ·rintro ex w' ⟨rfl,hr,hs,hb⟩;have hv2:=hv.mono hb jl
  have ee:∀ j r,r<4->j<n->repR (pat4 (.bool s) (.slice a m e) (.bool false) (.slice a2 m2 e2)) n (j*4+r)=pat4 (.bool s) (.slice a m e) (.bool false) (.slice a2 m2 e2) r:=fun j r hr hj=>by
   unfold repR;rw [if_pos (by omega)];unfold pat4;rw [show (j*4+r) % 4=r % 4 by omega]
  refine⟨_,rfl,⟨fun j hj=>⟨s,a,m,e,a2,m2,e2,⟨?_,?_,?_,?_,hr.lt⟩,fun _=>hv2⟩,fun o=>hr.frozen o,hr.lt⟩,Nat.le_refl _,hb⟩
  ·rw [hr.cell (i:=j*4) (by omega)];congr 1;exact ee j 0 (by omega) hj
  ·rw [hr.cell (i:=j*4+1) (by omega)];congr 1;exact ee j 1 (by omega) hj
  ·rw [hr.cell (i:=j*4+2) (by omega)];congr 1;exact ee j 2 (by omega) hj
  ·rw [hr.cell (i:=j*4+3) (by omega)];congr 1;exact ee j 3 (by omega) hj
end Go.Proofs.YtgmopcncbpdniaaGreat
namespace Go.Proofs.YtgmopcncbpdniaaGreat
def elimQ (c:Nat) (a:Nat->Nat->Rat) (i j:Nat):Rat:=if c<i/\c<=j then a i j - a i c / a c c*a c j else a i j
def triQ (a:Nat->Nat->Rat):Nat->Nat->Nat->Rat
 | 0=>a
 | c+1=>elimQ c (triQ a c)
structure MMat (k c:Nat) (a:Nat->Nat->Rat):Prop where
 off:∀ i j,c<=i->i<k->c<=j->j<k->i≠j->a i j<=0
 col:∀ j,c<=j->j<k->0<=sumQ (fun i=>if c<=i then a i j else 0) k
 ker:∀ z:Nat->Rat,(∀ i,c<=i->i<k->sumQ (fun j=>if c<=j then a i j*z j else 0) k=0)->∀ i,c<=i->i<k->z i=0
theorem sumQ_split (f:Nat->Rat) (c:Nat):∀ k,c<k->sumQ (fun i=>if c<=i then f i else 0) k=f c+sumQ (fun i=>if c+1<=i then f i else 0) k
 | 0,h=>by omega
 | k+1,h=>by
  simp only [sumQ];by_cases e:c=k
  ·subst e;have h1:sumQ (fun i=>if c<=i then f i else 0) c=0:=sumQ_eq_zero c (fun i hi=>if_neg (by omega));have h2:sumQ (fun i=>if c+1<=i then f i else 0) c=0:=sumQ_eq_zero c (fun i hi=>if_neg (by omega));rw [h1,h2,if_pos jl,if_neg (by omega)];grind
  ·rw [sumQ_split f c k (by omega),if_pos (by omega),if_pos (by omega)];grind
theorem MMat.pivot {k c:Nat} {a:Nat->Nat->Rat} (h:MMat k c a) (hc:c<k):0<a c c:=by
 have h1:=h.col c jl hc;rw [sumQ_split (fun i=>a i c) c k hc] at h1
 have h2:sumQ (fun i=>if c+1<=i then a i c else 0) k<=sumQ (fun _=>0) k:=sumQ_le k (fun i hi=>by
  by_cases e:c+1<=i
  ·rw [if_pos e];exact h.off i c (by omega) hi jl hc (by omega)
  ·rw [if_neg e];exact Rat.le_refl)
 have h3:=h2;rw [sumQ_zero] at h3;by_cases e:a c c=0
 ·exfalso
  have h4:=sumQ_le_eq k (f:=fun i=>if c+1<=i then a i c else 0) (g:=fun _=>0) (fun i hi=>by
   by_cases e:c+1<=i
   ·rw [if_pos e];exact h.off i c (by omega) hi jl hc (by omega)
   ·rw [if_neg e];exact Rat.le_refl) (by rw [sumQ_zero];grind)
  have:=h.ker (fun j=>if j=c then 1 else 0) (fun i hi hk=>by
   rw [sumQ_one _ c k hc (fun j hj hn=>by simp [hn])];rw [if_pos jl,if_pos rfl];by_cases e2:i=c
   ·subst e2;rw [e];grind
   ·have:=h4 i hk;rw [if_pos (by omega)] at this;rw [this];grind) c jl hc
  simp at this
 ·grind
theorem mul_nonpos {x y:Rat} (hx:x<=0) (hy:0<=y):x*y<=0:=by
 have:=Rat.mul_le_mul_of_nonneg_right hx hy;grind
theorem mul_nonpos2 {x y:Rat} (hx:x<=0) (hy:y<=0):0<=x*y:=by
 have:=Rat.mul_nonneg (a:=-x) (b:=-y) (by grind) (by grind);grind
theorem inv_pos' {x:Rat} (h:0<x):0<x⁻¹:=Rat.inv_pos.2 h
theorem MMat.step {k c:Nat} {a:Nat->Nat->Rat} (h:MMat k c a) (hc:c<k):MMat k (c+1) (elimQ c a):=by
 have hp:=h.pivot hc;have hi:=inv_pos' hp;have hne:a c c≠0:=by grind
 refine⟨fun i j h1 h2 h3 h4 hn=>?_,fun j h3 h4=>?_,fun z hz i h1 h2=>?_⟩
 ·unfold elimQ;rw [if_pos ⟨by omega,by omega⟩];have e1:=h.off i j (by omega) h2 (by omega) h4 hn;have e2:=h.off i c (by omega) h2 (by omega) hc (by omega);have e3:=h.off c j (by omega) hc (by omega) h4 (by omega);have e4:=Rat.mul_nonneg (mul_nonpos2 e2 e3) (Rat.le_of_lt hi);have e5:a i c / a c c*a c j=a i c*a c j*(a c c)⁻¹:=by rw [Rat.div_def];grind
  rw [e5];grind
 ·have e1:=h.col j (by omega) h4;rw [sumQ_split (fun i=>a i j) c k hc] at e1;have e2:=h.col c jl hc;rw [sumQ_split (fun i=>a i c) c k hc] at e2;have e3:=h.off c j (by omega) hc (by omega) h4 (by omega)
  have e4:sumQ (fun i=>if c+1<=i then elimQ c a i j else 0) k=sumQ (fun i=>if c+1<=i then a i j else 0) k - (a c c)⁻¹*a c j*sumQ (fun i=>if c+1<=i then a i c else 0) k:=by
   rw [<-sumQ_mul,<-sumQ_sub];refine sumQ_congr k (fun i hi=>?_);by_cases e:c+1<=i
   ·simp only [if_pos e];unfold elimQ;rw [if_pos ⟨by omega,by omega⟩,Rat.div_def];grind
   ·simp only [if_neg e];grind
  rw [e4]
  -- the sum of the pivot's column below it is at or above minus the pivot
  generalize sumQ (fun i=>if c+1<=i then a i c else 0) k=s at e2 ⊢;generalize sumQ (fun i=>if c+1<=i then a i j else 0) k=t at e1 ⊢;have e6:0<=(a c c+s)*(a c c)⁻¹:=Rat.mul_nonneg e2 (Rat.le_of_lt hi);have e7:(a c c+s)*(a c c)⁻¹=1+s*(a c c)⁻¹:=by grind
  rw [e7] at e6;have e8:=mul_nonpos e3 e6;grind
 ·-- a homogeneous solution behind the step is one ahead of it
  have e0:∀ i,c<=i->i<k->sumQ (fun j=>if c<=j then a i j*(if j=c then - ((a c c)⁻¹*sumQ (fun j=>if c+1<=j then a c j*z j else 0) k) else z j) else 0) k=0:=by
   intro i h1 h2;rw [sumQ_split (fun j=>a i j*(if j=c then - ((a c c)⁻¹*sumQ (fun j=>if c+1<=j then a c j*z j else 0) k) else z j)) c k hc,if_pos rfl]
   have e1:sumQ (fun j=>if c+1<=j then a i j*(if j=c then - ((a c c)⁻¹*sumQ (fun j=>if c+1<=j then a c j*z j else 0) k) else z j) else 0) k=sumQ (fun j=>if c+1<=j then a i j*z j else 0) k:=
    sumQ_congr k (fun j hj=>by
     by_cases e:c+1<=j
     ·simp only [if_pos e];rw [if_neg (by omega)]
     ·simp only [if_neg e])
   rw [e1];by_cases e:i=c
   ·subst e;grind
   ·have e2:=hz i (by omega) h2
    have e3:sumQ (fun j=>if c+1<=j then elimQ c a i j*z j else 0) k=sumQ (fun j=>if c+1<=j then a i j*z j else 0) k - a i c*(a c c)⁻¹*sumQ (fun j=>if c+1<=j then a c j*z j else 0) k:=by
     rw [<-sumQ_mul,<-sumQ_sub];refine sumQ_congr k (fun j hj=>?_);by_cases e:c+1<=j
     ·simp only [if_pos e];unfold elimQ;rw [if_pos ⟨by omega,by omega⟩,Rat.div_def];grind
     ·simp only [if_neg e];grind
    rw [e3] at e2;grind
  have:=h.ker _ e0 i (by omega) h2
  rwa [if_neg (by omega)] at this
theorem MMat.tri {k:Nat} {a:Nat->Nat->Rat} (h:MMat k 0 a):∀ c,c<=k->MMat k c (triQ a c)
 | 0,_=>h
 | c+1,hc=>(MMat.tri h c (by omega)).step (by omega)
def resid (k c:Nat) (a:Nat->Nat->Rat) (x:Nat->Rat) (i:Nat):Rat:=a i k - sumQ (fun j=>if c<=j then a i j*x j else 0) k
theorem resid_step {k c:Nat} {a:Nat->Nat->Rat} (x:Nat->Rat) (hc:c<k) (hp:a c c≠0) (i:Nat) (hi:c<i) (h:resid k (c+1) (elimQ c a) x i=0) (h0:resid k c a x c=0):resid k c a x i=0:=by
 unfold resid at *
 rw [sumQ_split (fun j=>a c j*x j) c k hc] at h0;rw [sumQ_split (fun j=>a i j*x j) c k hc]
 have e3:sumQ (fun j=>if c+1<=j then elimQ c a i j*x j else 0) k=sumQ (fun j=>if c+1<=j then a i j*x j else 0) k - a i c*(a c c)⁻¹*sumQ (fun j=>if c+1<=j then a c j*x j else 0) k:=by
  rw [<-sumQ_mul,<-sumQ_sub];refine sumQ_congr k (fun j hj=>?_);by_cases e:c+1<=j
  ·simp only [if_pos e];unfold elimQ;rw [if_pos ⟨by omega,by omega⟩,Rat.div_def];grind
  ·simp only [if_neg e];grind
 rw [e3] at h
 have e4:elimQ c a i k=a i k - a i c*(a c c)⁻¹*a c k:=by
  unfold elimQ;rw [if_pos ⟨by omega,by omega⟩,Rat.div_def]
 rw [e4] at h;grind
theorem triQ_row (a:Nat->Nat->Rat) (i j:Nat):∀ d c,i<=c->triQ a (c+d) i j=triQ a c i j
 | 0,_,_=>rfl
 | d+1,c,h=>by
  show elimQ (c+d) (triQ a (c+d)) i j=_;unfold elimQ;rw [if_neg (by omega)];exact triQ_row a i j d c h
theorem solved {k:Nat} {a:Nat->Nat->Rat} (hm:MMat k 0 a) (x:Nat->Rat) (hx:∀ i,i<k->resid k i (triQ a k) x i=0):∀ i,i<k->resid k 0 a x i=0:=by
 have key:∀ d c,c+d=k->∀ i,c<=i->i<k->resid k c (triQ a c) x i=0:=by
  intro d
  induction d with
  | zero=>intro c hc i h1 h2;omega
  | succ d ih=>
   intro c hc i h1 h2;have hck:c<k:=by omega
   have hp:=(hm.tri c (by omega)).pivot hck
   have h0:resid k c (triQ a c) x c=0:=by
    have:=hx c hck;unfold resid at *
    have e:∀ j,triQ a k c j=triQ a c c j:=fun j=>by
     have:=triQ_row a c j (k - c) c jl
     rwa [show c+(k - c)=k by omega] at this
    simp only [e] at this;exact this
   by_cases e:i=c
   ·subst e;exact h0
   ·exact resid_step x hck (by grind) i (by omega) (ih (c+1) (by omega) i (by omega) h2) h0
 exact fun i hi=>key k 0 (by omega) i (Nat.zero_le _) hi
theorem nl_lt (x:Nat):x<4294967296 ^ nl x:=(nl_le x (nl x)).1 jl
theorem nl_mul_le (x y:Nat):nl (x*y)<=nl x+nl y:=by
 rw [nl_le,Nat.pow_add];exact Nat.mul_lt_mul'' (nl_lt x) (nl_lt y)
theorem nl_add_le {x y k:Nat} (hx:nl x<=k) (hy:nl y<=k):nl (x+y)<=k+1:=by
 rw [nl_le] at hx hy ⊢;rw [Nat.pow_succ];omega
def szQ (q:Rat):Nat:=max (nl q.num.natAbs) (nl q.den)
theorem szQ_num (q:Rat):nl q.num.natAbs<=szQ q:=Nat.le_max_left _ _
theorem szQ_den (q:Rat):nl q.den<=szQ q:=Nat.le_max_right _ _
theorem szQ_le {q:Rat} {k:Nat} (h1:nl q.num.natAbs<=k) (h2:nl q.den<=k):szQ q<=k:=Nat.max_le.2 ⟨h1,h2⟩
theorem szQ_quot {w:Rat} {p q:Int} {k:Nat} (hq:q≠0) (h:(q:Rat)*w=(p:Rat)) (h1:nl p.natAbs<=k) (h2:nl q.natAbs<=k):szQ w<=k:=by
 obtain⟨e1,e2⟩:=lowest_le hq h;exact szQ_le (Nat.le_trans (nl_mono e1) h1) (Nat.le_trans (nl_mono e2) h2)
theorem den_ne (q:Rat):(q.den:Int)≠0:=by have:=q.den_pos;omega
theorem den_mul (q:Rat):((q.den:Int):Rat)*q=(q.num:Rat):=by
 have:=mul_den_num q;have e:((q.den:Int):Rat)=(q.den:Rat):=rfl;rw [e];grind
theorem szQ_mul (a b:Rat):szQ (a*b)<=szQ a+szQ b:=by
 refine szQ_quot (p:=a.num*b.num) (q:=(a.den:Int)*(b.den:Int)) (Int.mul_ne_zero (den_ne a) (den_ne b)) ?_ ?_ ?_
 ·rw [Rat.intCast_mul,Rat.intCast_mul,<-den_mul a,<-den_mul b];grind
 ·rw [Int.natAbs_mul];have:=nl_mul_le a.num.natAbs b.num.natAbs;have:=szQ_num a;have:=szQ_num b;omega
 ·rw [Int.natAbs_mul,Int.natAbs_natCast,Int.natAbs_natCast];have:=nl_mul_le a.den b.den;have:=szQ_den a;have:=szQ_den b;omega
theorem szQ_div (a b:Rat) (hb:b≠0):szQ (a / b)<=szQ a+szQ b:=by
 have hn:b.num≠0:=by
  intro e;exact hb (by have:=den_mul b;rw [e] at this;have h2:((b.den:Int):Rat)≠0:=fun h=>den_ne b (Rat.intCast_inj.1 h);grind)
 refine szQ_quot (p:=a.num*(b.den:Int)) (q:=(a.den:Int)*b.num) (Int.mul_ne_zero (den_ne a) hn) ?_ ?_ ?_
 ·rw [Rat.intCast_mul,Rat.intCast_mul,<-den_mul a,<-den_mul b,Rat.div_def];grind
 ·rw [Int.natAbs_mul,Int.natAbs_natCast];have:=nl_mul_le a.num.natAbs b.den;have:=szQ_num a;have:=szQ_den b;omega
 ·rw [Int.natAbs_mul,Int.natAbs_natCast];have:=nl_mul_le a.den b.num.natAbs;have:=szQ_den a;have:=szQ_num b;omega
theorem szQ_add (a b:Rat):szQ (a+b)<=szQ a+szQ b+1:=by
 refine szQ_quot (p:=a.num*(b.den:Int)+b.num*(a.den:Int)) (q:=(a.den:Int)*(b.den:Int)) (Int.mul_ne_zero (den_ne a) (den_ne b)) ?_ ?_ ?_
 ·rw [Rat.intCast_add,Rat.intCast_mul,Rat.intCast_mul,Rat.intCast_mul,<-den_mul a,<-den_mul b];grind
 ·refine Nat.le_trans (nl_mono (Int.natAbs_add_le _ _)) ?_;rw [Int.natAbs_mul,Int.natAbs_mul,Int.natAbs_natCast,Int.natAbs_natCast];have h1:=nl_mul_le a.num.natAbs b.den;have h2:=nl_mul_le b.num.natAbs a.den;have:=szQ_num a;have:=szQ_num b;have:=szQ_den a;have:=szQ_den b;exact nl_add_le (by omega) (by omega)
 ·rw [Int.natAbs_mul,Int.natAbs_natCast,Int.natAbs_natCast];have:=nl_mul_le a.den b.den;have:=szQ_den a;have:=szQ_den b;omega
theorem szQ_neg (a:Rat):szQ (-a)=szQ a:=by
 unfold szQ;rw [Rat.neg_num,Rat.neg_den,Int.natAbs_neg]
theorem szQ_sub (a b:Rat):szQ (a - b)<=szQ a+szQ b+1:=by
 rw [Rat.sub_eq_add_neg];have:=szQ_add a (-b)
 rwa [szQ_neg] at this
theorem szQ_int (n:Int) (h:n.natAbs<4294967296 ^ 2):szQ (n:Rat)<=2:=by
 refine szQ_le ?_ ?_
 ·rw [Rat.num_intCast,nl_le];exact h
 ·rw [Rat.den_intCast,nl_le];decide
theorem szQ_zero:szQ 0<=2:=szQ_int 0 (by decide)
theorem szQ_elim {K:Nat} {a:Nat->Nat->Rat} (c:Nat) (hp:a c c≠0) (hK:1<=K) {n m:Nat} (hc:c<n) (hcm:c<m) (h:∀ i j,i<n->j<m->szQ (a i j)<=K):∀ i j,i<n->j<m->szQ (elimQ c a i j)<=5*K:=fun i j hi hj=>by
 unfold elimQ;split
 ·have h1:=h i j hi hj;have h2:=h i c hi hcm;have h3:=h c c hc hcm;have h4:=h c j hc hj;have:=szQ_sub (a i j) (a i c / a c c*a c j);have:=szQ_mul (a i c / a c c) (a c j);have:=szQ_div (a i c) (a c c) hp;omega
 ·have:=h i j hi hj;omega
theorem szQ_tri {K:Nat} {a:Nat->Nat->Rat} (hK:1<=K) {n m:Nat} (hnm:n<=m) (h:∀ i j,i<n->j<m->szQ (a i j)<=K) (hp:∀ c,c<n->triQ a c c c≠0):∀ c,c<=n->∀ i j,i<n->j<m->szQ (triQ a c i j)<=5 ^ c*K
 | 0,_=>fun i j hi hj=>by rw [Nat.pow_zero,Nat.one_mul];exact h i j hi hj
 | c+1,hc=>fun i j hi hj=>by
  have:=szQ_elim c (hp c (by omega)) (K:=5 ^ c*K) (Nat.mul_pos (Nat.pow_pos (by decide)) hK) (by omega) (by omega) (szQ_tri hK hnm h hp c (by omega)) i j hi hj;rw [Nat.pow_succ,Nat.mul_comm (5 ^ c) 5,Nat.mul_assoc];exact this
theorem tri_solution (n:Nat) (t:Nat->Nat->Rat) (hp:∀ i,i<n->t i i≠0):∃ x:Nat->Rat,∀ i,i<n->resid n i t x i=0:=by
 have key:∀ d c,c+d=n->∃ x:Nat->Rat,∀ i,c<=i->i<n->resid n i t x i=0:=by
  intro d
  induction d with
  | zero=>intro c hc;exact⟨fun _=>0,fun i h1 h2=>by omega⟩
  | succ d ih=>
   intro c hc;obtain⟨x,hx⟩:=ih (c+1) (by omega);refine⟨fun j=>if j=c then (t c n - sumQ (fun j=>if c+1<=j then t c j*x j else 0) n) / t c c else x j,fun i h1 h2=>?_⟩;by_cases e:i=c
   ·subst e;unfold resid;rw [sumQ_split (fun j=>t i j*(if j=i then (t i n - sumQ (fun j=>if i+1<=j then t i j*x j else 0) n) / t i i else x j)) i n h2,if_pos rfl]
    rw [sumQ_congr n (g:=fun j=>if i+1<=j then t i j*x j else 0) (fun j hj=>by
     by_cases e:i+1<=j
     ·have hji:j≠i:=by omega
      simp only [if_pos e,if_neg hji]
     ·simp only [if_neg e])]
    have:=hp i h2;rw [Rat.div_def];grind
   ·have h3:=hx i (by omega) h2;unfold resid at h3 ⊢
    rw [sumQ_congr n (g:=fun j=>if i<=j then t i j*x j else 0) (fun j hj=>by
     by_cases e:i<=j
     ·simp only [if_pos e];rw [if_neg (by omega)]
     ·simp only [if_neg e])]
    exact h3
 obtain⟨x,hx⟩:=key n 0 (by omega);exact⟨x,fun i hi=>hx i (Nat.zero_le _) hi⟩
def backS (t:Nat->Nat->Rat) (x:Nat->Rat) (n i:Nat):Nat->Rat
 | 0=>t i n
 | d+1=>backS t x n i d - t i (i+1+d)*x (i+1+d)
theorem backS_sum (t:Nat->Nat->Rat) (x:Nat->Rat) (n i:Nat):∀ d,backS t x n i d=t i n - sumQ (fun j=>if i+1<=j then t i j*x j else 0) (i+1+d)
 | 0=>by
  rw [sumQ_eq_zero _ (fun j hj=>if_neg (by omega))];simp only [backS];grind
 | d+1=>by
  simp only [backS];rw [backS_sum t x n i d,show i+1+(d+1)=i+1+d+1 by omega];simp only [sumQ];rw [if_pos (by omega)];grind
theorem back_div (t:Nat->Nat->Rat) (x:Nat->Rat) (n i:Nat) (hi:i<n) (hp:t i i≠0) (h:resid n i t x i=0):backS t x n i (n - (i+1)) / t i i=x i:=by
 rw [backS_sum,show i+1+(n - (i+1))=n by omega];unfold resid at h;rw [sumQ_split (fun j=>t i j*x j) i n hi] at h;rw [Rat.div_def];have h2:t i n - sumQ (fun j=>if i+1<=j then t i j*x j else 0) n=t i i*x i:=by grind
 rw [h2];grind
theorem szQ_back {A X:Nat} (t:Nat->Nat->Rat) (x:Nat->Rat) (n i:Nat) (hA:∀ j,j<=n->szQ (t i j)<=A) (hX:∀ j,j<n->szQ (x j)<=X):∀ d,i+1+d<=n->szQ (backS t x n i d)<=A+d*(A+X+1)
 | 0,h=>by simp only [backS];have:=hA n jl;omega
 | d+1,h=>by
  have h1:=szQ_back t x n i hA hX d (by omega);have h2:=hA (i+1+d) (by omega);have h3:=hX (i+1+d) (by omega);have h4:=szQ_sub (backS t x n i d) (t i (i+1+d)*x (i+1+d));have h5:=szQ_mul (t i (i+1+d)) (x (i+1+d));simp only [backS];rw [Nat.add_mul,Nat.one_mul];omega
end Go.Proofs.YtgmopcncbpdniaaGreat
