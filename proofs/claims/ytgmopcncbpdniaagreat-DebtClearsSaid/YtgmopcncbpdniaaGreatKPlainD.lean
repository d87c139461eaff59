import Derived.Test.YtgmopcncbpdniaaGreatKShelf
import Derived.Test.YtgmopcncbpdniaaGreatKBase
import Derived.Deep.LoopGhost
import Derived.Below
import Derived.ChangeSame
import Derived.ChangeSlices
import Derived.ProofKit
import Derived.OpenShut
import Derived.WideKeyArgs
import Derived.Deep.Matrix
set_option maxRecDepth 100000
set_option linter.unusedVariables false
set_option linter.unusedSimpArgs false
namespace Go.Proofs.YtgmopcncbpdniaaGreat
open Go.RowKit
theorem ints_s:Tryz.prog.underlying 24=some (.slice (Tryz.prog.elem 24)):=by kernel_rfl
theorem ints_z (W:World):(sizeOf (Tryz.prog.elem 24)).run Tryz.prog W = .ok 1 W:=by kernel_rfl
theorem mat_s:Tryz.prog.underlying 25=some (.slice (Tryz.prog.elem 25)):=by kernel_rfl
theorem mat_z (W:World):(sizeOf (Tryz.prog.elem 25)).run Tryz.prog W = .ok 1 W:=by kernel_rfl
def ic (f:Nat->Int) (i:Nat):Value:=.int .i64 (f i)
theorem ixI {w:World} {a:Option Addr} {b o c n:Nat} {g:Nat->Value} (h:IsSl w a b o c n g) (i d:Nat) (hi:i<n) (W:World) :
   (Instr.indexAt 24 (.slice a n d) (.int .i64 (i:Int))).run Tryz.prog W = .ok (.pointer (some ⟨b,o+i,none⟩)) W:=
  run_indexAt_opt 24 ints_s ints_z a b o n d (fun q=>h.at_ q) .i64 i (by omega) (by omega) W
theorem ixM {w:World} {a:Option Addr} {b o c n:Nat} {g:Nat->Value} (h:IsSl w a b o c n g) (i d:Nat) (hi:i<n) (W:World) :
   (Instr.indexAt 25 (.slice a n d) (.int .i64 (i:Int))).run Tryz.prog W = .ok (.pointer (some ⟨b,o+i,none⟩)) W:=
  run_indexAt_opt 25 mat_s mat_z a b o n d (fun q=>h.at_ q) .i64 i (by omega) (by omega) W
structure IsMat (w:World) (a:Option Addr) (b o c n:Nat) (ra:Nat->Option Addr) (rb ro rc m:Nat->Nat) (f:Nat->Nat->Int):Prop where
 top:IsSl w a b o c n (fun i=>.slice (ra i) (m i) (rc i))
 row:∀ i,i<n->IsSl w (ra i) (rb i) (ro i) (rc i) (m i) (ic (f i))
def Ints (w:World) (v:Value) (n:Nat) (f:Nat->Int):Prop:=Sl w v n (ic f)
def Mat (w:World) (v:Value) (n:Nat) (m:Nat->Nat) (f:Nat->Nat->Int):Prop:=
 ∃ (a:Option Addr) (b o c:Nat) (ra:Nat->Option Addr) (rb ro rc:Nat->Nat),v = .slice a n c/\IsMat w a b o c n ra rb ro rc m f
section
variable {w w':World} {a:Option Addr} {b o c n:Nat} {g:Nat->Value} {ra:Nat->Option Addr} {rb ro rc m:Nat->Nat} {f:Nat->Nat->Int}
theorem IsSl.drawn (h:IsSl w a b o c n g) (hd:Drawn w w'):IsSl w' a b o c n g:=h.mono (hd.below _) jl
theorem IsMat.mono {B:Nat} (h:IsMat w a b o c n ra rb ro rc m f) (hb:Below B w w') (hB:w.heap.size<=B):IsMat w' a b o c n ra rb ro rc m f:=
 ⟨h.top.mono hb hB,fun i hi=>(h.row i hi).mono hb hB⟩
theorem IsMat.drawn (h:IsMat w a b o c n ra rb ro rc m f) (hd:Drawn w w'):IsMat w' a b o c n ra rb ro rc m f:=h.mono (hd.below _) jl
theorem Ints.mono {v:Value} {f:Nat->Int} {B:Nat} (h:Ints w v n f) (hb:Below B w w') (hB:w.heap.size<=B):Ints w' v n f:=Sl.mono h hb hB
theorem Mat.mono {v:Value} {B:Nat} (h:Mat w v n m f) (hb:Below B w w') (hB:w.heap.size<=B):Mat w' v n m f:=by
 obtain⟨a,b,o,c,ra,rb,ro,rc,rfl,h⟩:=h;exact⟨a,b,o,c,ra,rb,ro,rc,rfl,h.mono hb hB⟩
theorem Ints.drawn {v:Value} {f:Nat->Int} (h:Ints w v n f) (hd:Drawn w w'):Ints w' v n f:=h.mono (hd.below _) jl
theorem Mat.drawn {v:Value} (h:Mat w v n m f) (hd:Drawn w w'):Mat w' v n m f:=h.mono (hd.below _) jl
end
theorem in_any (v lo hi : Int) (r : Bool) (hr : decide (lo <= v /\ v <= hi) = r) (w : World) :
  Calls Tryz.prog 53 #[.int .i64 v,.int .i64 lo,.int .i64 hi] w fun e w'=>e = .returned (.bool r)/\w=w':=by
 by_cases h1:lo<=v
 ·by_cases h2:v<=hi
  ·obtain rfl:r=true:=by rw [<-hr];simp [h1,h2]
   have d1:decide (lo<=v)=true:=by simpa using h1
   have d2:decide (v<=hi)=true:=by simpa using h2
   clear hr;go_enter Tryz.func53,Tryz.ntmps53;go_wp2;go_ret;exact⟨rfl,rfl⟩
  ·obtain rfl:r=false:=by rw [<-hr];simp;omega
   have d1:decide (lo<=v)=true:=by simpa using h1
   have d2:decide (v<=hi)=false:=by simpa using h2
   clear hr;go_enter Tryz.func53,Tryz.ntmps53;go_wp2;go_ret;exact⟨rfl,rfl⟩
 ·obtain rfl:r=false:=by rw [<-hr];simp;omega
  have d1:decide (lo<=v)=false:=by simpa using h1
  clear hr;go_enter Tryz.func53,Tryz.ntmps53;go_wp2;go_ret;exact⟨rfl,rfl⟩
def sumF (f:Nat->Int):Nat->Int
 | 0=>0
 | n+1=>sumF f n+f n
theorem sumF_bound (f:Nat->Int) (n:Nat) (B:Nat) (h:∀ i,i<n->-(B:Int)<=f i/\f i<=B) : -(n*B:Nat)<=sumF f n/\sumF f n<=(n*B:Nat):=by
 induction n with
 | zero=>simp [sumF]
 | succ n ih=>
  have h1:=ih (fun i hi=>h i (by omega));have h2:=h n (by omega);rw [Nat.succ_mul];simp only [sumF];omega
theorem total_any (v : Value) (n : Nat) (f : Nat -> Int) (w : World) (hv : Ints w v n f) (hn : n <= 1048576) (hf : ∀ i, i < n -> -(1099511627776 : Int) <= f i /\ f i <= 1099511627776) :
  Calls Tryz.prog 17 #[v] w fun e w'=>e = .returned (.int .i64 (sumF f n))/\Drawn w w':=by
 obtain⟨a,b,o,c,rfl,hs⟩:=hv;have HF:=jj hf;clear hf;go_enter Tryz.func17,Tryz.ntmps17;go_wp2;go_loopw [3,4] (fun s i wr=>∃ k:Nat,k<=n/\i = .int .i64 (k:Nat)/\s = .int .i64 (sumF f k)/\Hid (Drawn w wr)) (fun _ i _=>n - (intOf i).toNat)
 case atStart=>exact⟨0,by omega,rfl,rfl,jj (Drawn.refl _)⟩
 case round=>
  obtain⟨k,hk,rfl,rfl,hd⟩:=hrel;by_cases h:k<n
  ·have hix:=fun W=>ixI hs k c h W
   have hc:=(hs.drawn hd.out).cell k h;simp only [ic] at hc;have b1:=HF.out k h;have b2:=sumF_bound f k 1099511627776 (fun i hi=>HF.out i (by omega));have b3:((k*1099511627776:Nat):Int)<=1152921504606846976:=by omega
   have b4 : -(1152921504606846976:Int)<=sumF f k:=by omega
   have b5:sumF f k<=1152921504606846976:=by omega
   clear b2 b3;go_wp2;go_roundw
   case rel=>exact⟨k+1,by omega,by go_num,rfl,hd⟩
   case measure=>simp [intOf];omega
  ·obtain rfl:k=n:=by omega
   go_wp2;go_ret;exact⟨rfl,hd.out⟩
end Go.Proofs.YtgmopcncbpdniaaGreat
namespace Go.Proofs.YtgmopcncbpdniaaGreat
open Go.ChangeShapes Go.WideShapes Go.ChangeAt Go.RowKit Go.Deep
section
variable {H:Type} {enc:TypeId × Value->H} {P:Program}
theorem post_of_below {f : Func} {s : ChangeSpec} {apart fresh handsOn again : Bool} {W W' : World} {args : Array Value} {v : Value} {ds gs : List (DataW H)} {before pa pv : List MemPlace}
  (hW:DataW.Whole enc P f.params.toList s.vars apart W args.toList ds gs before)
  (hres:∀ (b:Nat) (sp:Nat->Bool) (hd:Bool),DataW.TrodAll enc P W' b sp hd f.resultTypes.toList (v.resultList f.resultTypes.size) (s.fn H (ds ++ gs)).results [])
  (hargs:∀ sp:Nat->Bool,(∀ p ∈ before,sp p.block=true)->DataW.TrodAll enc P W' 0 sp true f.params.toList args.toList (s.fn H (ds ++ gs)).args pa)
  (hvars:∀ sp:Nat->Bool,(∀ p ∈ before,sp p.block=true)->DataW.TrodVars enc P W' sp s.vars (s.fn H (ds ++ gs)).vars pv)
  (hps:before=pa ++ pv) (hb:Below W.heap.size W W')
  (hok:∀ (j:Nat) (t:TypeId) (r:Value),f.resultTypes[j]? = some t->(v.resultList f.resultTypes.size)[j]? = some r->Value.okWide P W' .any 0 t r) :
  s.post enc P f apart fresh handsOn again W args v W':=by
 have hlt:∀ p ∈ before,p.block<W.heap.size:=fun p hp=>hW.lt p hp
 have hold:∀ p ∈ before,(fun b=>decide (b<W.heap.size)) p.block=true:=fun p hp=>by simpa using hlt p hp
 refine⟨ds,gs,before,[],pa,pv,hW,hres _ _ _,hargs _ hold,hvars _ hold,World.keptBut_mono (fun p hp=>⟨hp,?_⟩) (hb.frame (· ∈ before)),fun _=>?_⟩
 ·rw [hps,List.mem_append] at hp;exact Or.inr hp
 ·obtain⟨_,_,_,_,_,hz,hn⟩:=hW;refine⟨hok,_,_,([] ++ pa) ++ pv,⟨[] ++ pa,pv,trodAll_append (hargs _ (fun _ _=>rfl)) (hres _ _ _),hvars _ (fun _ _=>rfl),rfl,?_,?_⟩,?_⟩
  ·intro b off hp;have hin:MemPlace.cell b off ∈ before:=by rw [hps];simpa using hp
   rw [hb.frozen (hlt _ hin)];exact hz b off hin
  ·intro ha;have:=hn ha;rw [hps] at this;simpa using this
  ·intro p hp _;rw [hps];simpa using hp
end
theorem ownGodebug:ownKnob Tryz.prog.godebug=none:=by kernel_rfl
theorem laidOutP:laidOutB Tryz.prog=true:=by kernel_rfl
theorem cellsM:Tryz.prog.cellsOf 24=1:=by kernel_rfl
theorem cellsI:Tryz.prog.cellsOf 3=1:=by kernel_rfl
section
variable {H:Type} {enc:TypeId × Value->H}
theorem plain_addr {w:World} {a:Addr} {u:Value} (h:w.cell? (a.add 0)=some u):a=⟨a.block,a.off,none⟩:=by
 obtain⟨b,o,s⟩:=a;have:s=none:=by simpa [Addr.add] using World.cell?_spot h
 subst this;rfl
theorem addr_add (b o j:Nat):(⟨b,o,none⟩:Addr).add j=⟨b,o+j,none⟩:=by unfold Addr.add;split <;> simp_all
theorem sl_of_cells {w:World} {a:Addr} {n c:Nat} {g:Nat->Value} (hc:n<=c) (h:∀ i,i<n->w.cell? (a.add i)=some (g i)):∃ b o,IsSl w (some a) b o c n g:=by
 by_cases h0:0<n
 ·have e:=plain_addr (h 0 h0)
  have h2:∀ i,i<n->w.cell? ⟨a.block,a.off+i,none⟩=some (g i):=fun i hi=>by
   have h1:=h i hi;rw [e,addr_add] at h1;exact h1
  exact⟨a.block,a.off,hc,fun _=>by rw [<-e],fun _=>World.block_lt_of_cell? w ⟨a.block,a.off+0,none⟩ (h2 0 h0),h2,fun e=>by cases e⟩
 ·exact⟨0,0,hc,fun q=>absurd q h0,fun q=>absurd q h0,fun i hi=>by omega,fun e=>by cases e⟩
theorem sl_none (w:World) (g:Nat->Value):IsSl w none 0 0 0 0 g:=⟨Nat.le_refl _,fun q=>by omega,fun q=>by omega,fun i hi=>by omega,fun _=>rfl⟩
theorem ints_of_trod {W : World} {base : Nat} {v : Value} {d : DataW H} {ps : List MemPlace} (hv : Value.okWide Tryz.prog W .any base 24 v) (h : DataW.Trod enc Tryz.prog W 0 (fun _ => true) true 24 v d ps) :
  ∃ n f,Ints W v n f/\n<=9223372036854775807:=by
 obtain⟨a0,len,cap,rfl⟩:=okWide_slice Tryz.underlying24 hv;obtain⟨fuel,hf⟩:=h;rcases open_ints Tryz.underlying24 Tryz.underlying3 cellsI hf with ⟨hcs,hx⟩ | ⟨a,len',cap',zs,hcs,_,hl,hm,hz,hx,hcell,hwz⟩
 ·simp [Value.cells] at hcs;obtain⟨rfl,rfl,rfl⟩:=hcs;exact⟨0,fun _=>0,⟨_,_,_,_,rfl,sl_none W _⟩,Nat.zero_le _⟩
 ·simp [Value.cells] at hcs;obtain⟨rfl,rfl,rfl⟩:=hcs;simp only [if_true] at hz;unfold maxLen at hm;obtain⟨b,o,hs⟩:=sl_of_cells (w:=W) (a:=a) (g:=ic (fun i=>zs.getD i 0)) hl (fun i hi=>hcell i (by omega));exact⟨len,fun i=>zs.getD i 0,⟨_,_,_,_,rfl,hs⟩,by omega⟩
theorem mat_of_trod {W : World} {base : Nat} {v : Value} {d : DataW H} {ps : List MemPlace} (hv : Value.okWide Tryz.prog W .any base 25 v) (h : DataW.Trod enc Tryz.prog W 0 (fun _ => true) true 25 v d ps) :
  ∃ n m f,Mat W v n m f/\n<=9223372036854775807/\∀ i,i<n->m i<=9223372036854775807:=by
 obtain⟨a0,len,cap,rfl⟩:=okWide_slice Tryz.underlying25 hv;obtain⟨fuel,hf⟩:=h;rcases open_int_rows Tryz.underlying25 Tryz.underlying24 Tryz.underlying3 cellsM cellsI hf with ⟨hcs,hx⟩ | ⟨a,len',cap',A,L,C,Z,hcs,_,hl,hm,hx,hrows⟩
 ·simp [Value.cells] at hcs;obtain⟨rfl,rfl,rfl⟩:=hcs;exact⟨0,fun _=>0,fun _ _=>0,⟨none,0,0,0,fun _=>none,fun _=>0,fun _=>0,fun _=>0,rfl,⟨sl_none W _,fun i hi=>absurd hi (Nat.not_lt_zero i)⟩⟩,Nat.zero_le _,fun i hi=>absurd hi (Nat.not_lt_zero i)⟩
 ·simp [Value.cells] at hcs;obtain⟨rfl,rfl,rfl⟩:=hcs;unfold maxLen at hm hrows;obtain⟨b,o,hs⟩:=sl_of_cells (w:=W) (a:=a) (g:=fun i=>.slice (A i) (L i) (C i)) hl (fun i hi=>(hrows i (by omega)).1)
  have hrow:∀ i,∃ p:Nat × Nat,i<len->IsSl W (A i) p.1 p.2 (C i) (L i) (ic (fun j=>(Z i).getD j 0)):=fun i=>by
   by_cases hi:i<len
   ·obtain⟨_,h2,h3,h4,h5,h6,h7⟩:=hrows i (by omega);cases hA:A i with
    | none=>
     have hc:=h6 hA;refine⟨(0,0),fun _=>?_⟩;have hL:L i=0:=by omega
     rw [hc,hL];exact sl_none W _
    | some a'=>
     obtain⟨b',o',hs'⟩:=sl_of_cells (w:=W) (a:=a') (g:=ic (fun j=>(Z i).getD j 0)) h2 (fun j hj=>(h7 a' hA).2 j (by omega));exact⟨(b',o'),fun _=>hs'⟩
   ·exact⟨(0,0),fun e=>absurd e hi⟩
  refine⟨len,L,fun i j=>(Z i).getD j 0,⟨some a,b,o,cap,A,fun i=>(Classical.choose (hrow i)).1,fun i=>(Classical.choose (hrow i)).2,C,rfl,⟨hs,fun i hi=>Classical.choose_spec (hrow i) hi⟩⟩,by omega,fun i hi=>?_⟩;obtain⟨_,h2,h3,_⟩:=hrows i (by omega);omega
end
end Go.Proofs.YtgmopcncbpdniaaGreat
namespace Go.Proofs.YtgmopcncbpdniaaGreat
theorem Dpow_pos (n:Nat):0<10000 ^ n:=Nat.pow_pos (by omega)
def valD (f:Nat->Nat):Nat->Nat
 | 0=>0
 | n+1=>valD f n+f n*10000 ^ n
def dg (x i:Nat):Nat:=x / 10000 ^ i % 10000
def nd (x:Nat):Nat:=if h:x=0 then 0 else nd (x / 10000)+1
termination_by x
decreasing_by omega
theorem dg_lt (x i:Nat):dg x i<10000:=Nat.mod_lt _ (by omega)
theorem nd_le (x n:Nat):nd x<=n↔x<10000 ^ n:=by
 induction n generalizing x with
 | zero=>
  rw [nd];by_cases h:x=0
  ·simp [h]
  ·simp [h]
 | succ n ih=>
  rw [nd];by_cases h:x=0
  ·subst h;simp [Dpow_pos]
  ·rw [dif_neg h,Nat.pow_succ,Nat.add_le_add_iff_right,ih,Nat.div_lt_iff_lt_mul (by omega)]
theorem lt_nd (x n:Nat):n<nd x↔10000 ^ n<=x:=by
 have:=nd_le x n;omega
theorem lt_pow_nd (x:Nat):x<10000 ^ nd x:=(nd_le x (nd x)).1 jl
theorem nd_zero:nd 0=0:=by rw [nd];simp
theorem nd_pos (x:Nat):0<nd x↔0<x:=by rw [lt_nd];simp;omega
theorem nd_mono {x y:Nat} (h:x<=y):nd x<=nd y:=(nd_le _ _).2 (Nat.lt_of_le_of_lt h (lt_pow_nd y))
theorem valD_lt (f:Nat->Nat) (n:Nat) (h:∀ i,i<n->f i<10000):valD f n<10000 ^ n:=by
 induction n with
 | zero=>simp [valD]
 | succ n ih=>
  have h1:=ih (fun i hi=>h i (by omega));have h2:=h n (by omega);simp only [valD,Nat.pow_succ]
  have:f n*10000 ^ n+10000 ^ n<=10000*10000 ^ n:=by
   rw [<-Nat.succ_mul];exact Nat.mul_le_mul_right _ h2
  rw [Nat.mul_comm (10000 ^ n)];omega
theorem valD_congr {f g:Nat->Nat} {n:Nat} (h:∀ i,i<n->f i=g i):valD f n=valD g n:=by
 induction n with
 | zero=>rfl
 | succ n ih=>simp only [valD];rw [ih (fun i hi=>h i (by omega)),h n (by omega)]
theorem valD_dg (x n:Nat):valD (dg x) n=x % 10000 ^ n:=by
 induction n with
 | zero=>simp [valD,Nat.mod_one]
 | succ n ih=>
  simp only [valD,ih,dg];rw [Nat.pow_succ,Nat.mod_mul,Nat.mul_comm (10000 ^ n)]
theorem valD_nd (x:Nat):valD (dg x) (nd x)=x:=by
 rw [valD_dg,Nat.mod_eq_of_lt (lt_pow_nd x)]
theorem dg_valD (f:Nat->Nat) (n:Nat) (h:∀ i,i<n->f i<10000) (i:Nat) (hi:i<n):dg (valD f n) i=f i:=by
 induction n with
 | zero=>omega
 | succ n ih=>
  have hl:=valD_lt f n (fun i hi=>h i (by omega));by_cases e:i=n
  ·subst e;have hb:=Dpow_pos i;simp only [valD,dg];rw [Nat.add_mul_div_right _ _ hb,Nat.div_eq_of_lt hl,Nat.zero_add,Nat.mod_eq_of_lt (h i (by omega))]
  ·have h1:=ih (fun i hi=>h i (by omega)) (by omega);rw [<-h1];obtain⟨d,rfl⟩:∃ d,n=i+1+d:=⟨n - i - 1,by omega⟩;simp only [valD,dg]
   have:f (i+1+d)*10000 ^ (i+1+d)=(f (i+1+d)*10000 ^ d*10000)*10000 ^ i:=by
    rw [Nat.pow_add,Nat.pow_add];simp only [Nat.pow_one];ac_rfl
   rw [this,Nat.add_mul_div_right _ _ (Dpow_pos i),Nat.add_mul_mod_self_right]
theorem dg_zero_of_lt {x n i:Nat} (h:x<10000 ^ n) (hi:n<=i):dg x i=0:=by
 unfold dg;rw [Nat.div_eq_of_lt (jm h (Nat.pow_le_pow_right (by omega) hi))]
theorem valD_trimN (f:Nat->Nat) (n:Nat):valD f (trimN f n)=valD f n:=by
 induction n with
 | zero=>rfl
 | succ n ih=>
  simp only [trimN];split
  ·rename_i h;rw [ih];simp [valD,h]
  ·rfl
theorem nd_valD (f:Nat->Nat) (n:Nat) (h:∀ i,i<n->f i<10000):nd (valD f n)=trimN f n:=by
 have hle:=trimN_le f n
 have h1:nd (valD f n)<=trimN f n:=by
  rw [nd_le,<-valD_trimN];exact valD_lt f _ (fun i hi=>h i (by omega))
 have h2:trimN f n<=nd (valD f n):=by
  by_cases e:trimN f n=0
  ·omega
  ·obtain⟨k,hk⟩:∃ k,trimN f n=k+1:=⟨trimN f n - 1,by omega⟩
   have hne:f k≠0:=by
    clear h1 hle h e
    induction n with
    | zero=>simp [trimN] at hk
    | succ n ih=>
     simp only [trimN] at hk;split at hk
     ·exact ih hk
     ·have:n=k:=by omega
      subst this;assumption
   rw [hk];show k<_;rw [lt_nd,<-valD_trimN,hk];simp only [valD];have:=Nat.mul_le_mul_right (10000 ^ k) (Nat.one_le_iff_ne_zero.2 hne);omega
 omega
theorem nd_add (x y m:Nat) (hx:nd x<=m) (hy:nd y<=m):nd (x+y)<=m+1:=by
 rw [nd_le] at *
 rw [Nat.pow_succ];have:=Dpow_pos m;omega
theorem nd_mul (x y m n:Nat) (hx:nd x<=m) (hy:nd y<=n):nd (x*y)<=m+n:=by
 rw [nd_le] at *
 rw [Nat.pow_add];exact Nat.mul_lt_mul'' hx hy
end Go.Proofs.YtgmopcncbpdniaaGreat
