import Derived.Test.YtgmopcncbpdniaaGreatKShelf
import Derived.Test.YtgmopcncbpdniaaGreatKRefN
import Derived.Test.YtgmopcncbpdniaaGreatKBig5
import Derived.Test.YtgmopcncbpdniaaGreatKCopy
import Derived.Test.YtgmopcncbpdniaaGreatKAre
import Derived.WalkLawsBesides
import Derived.Test.YtgmopcncbpdniaaGreatKShelf
import Derived.Deep.QuietTactic
import Derived.BigQuiet
import Derived.Test.YtgmopcncbpdniaaGreatKRat5
import Derived.Deep.RegionHeld3
import Derived.Test.YtgmopcncbpdniaaGreatKPlainN
import Derived.Test.YtgmopcncbpdniaaGreatKPlainT
import Derived.Deep.DeepCutAuto
import Derived.Deep.CutBlock
import Derived.Test.YtgmopcncbpdniaaGreatKPlainV
import Derived.Test.YtgmopcncbpdniaaGreatKFig
import Derived.Deep.AppendLies
import Derived.Deep.RegionLaw
set_option maxHeartbeats 4000000
set_option maxRecDepth 100000
set_option linter.unusedVariables false
set_option linter.unusedSimpArgs false
namespace Go.Proofs.YtgmopcncbpdniaaGreat
open Go.RowKit
attribute [local go_sem ↓] Go.wp_at_zero Go.wp_at_succ
theorem least_no (vc vd : Value) (nc n : Nat) (cash : Nat -> Int) (m : Nat -> Nat) (d : Nat -> Nat -> Int) (w : World) (hc : Ints w vc nc cash) (hd : Mat w vd n m d) (b1 : nc <= 1048576) (b2 : n <= 1048576) (b3 : ∀ i, i < n -> m i <= 1048576) (hno : ¬ Mkt nc n cash m d) :
  Calls Tryz.prog 30 #[vc,vd] w fun e w'=>e = .returned (.tuple #[.slice none 0 0,.int .i64 1])/\Below w.heap.size w w':=by
 have HC:=jj hc;have HD:=jj hd;have HN:=jj hno;have B3:=jj b3;clear hc hd hno b3;go_enter Tryz.func30,Tryz.ntmps30;go_wp2_with (go_at_call 38;(with_reducible refine (read_no _ _ nc n cash m d _ HC.out HD.out b1 b2 B3.out HN.out).mono ?_);rintro e w1 ⟨rfl,hb1⟩);go_ret2;exact⟨rfl,hb1⟩
end Go.Proofs.YtgmopcncbpdniaaGreat
namespace Go.Proofs.YtgmopcncbpdniaaGreat
open Go.RowKit
theorem dL_pos (i j:Nat):0<=dL i j:=by unfold dL;split <;> (try split) <;> omega
theorem live_has (p:Nat->Rat):hasP 2 (cashQ cashL) (shQ 2 dL) p 0=1+p 1/\hasP 2 (cashQ cashL) (shQ 2 dL) p 1=p 0:=by
 have a:shQ 2 dL 0 0=0:=by decide +kernel
 have b:shQ 2 dL 1 0=1:=by decide +kernel
 have c:shQ 2 dL 0 1=1:=by decide +kernel
 have e:shQ 2 dL 1 1=0:=by decide +kernel
 have f:cashQ cashL 0=1:=by decide +kernel
 have g:cashQ cashL 1=0:=by decide +kernel
 unfold hasP;simp only [sumQ,a,b,c,e,f,g];constructor <;> grind
theorem live_tot:totQ 2 dL 0=4/\totQ 2 dL 1=2:=by constructor <;> decide +kernel
theorem live_pays {ps:(Nat->Bool)->Nat->Rat} {q:Nat} (hps:PsOK 2 cashL dL ps) (h:Last 2 cashL dL ps q):PS 2 cashL dL ps q 0=3/\PS 2 cashL dL ps q 1=2:=by
 have hc:=(pays_of (rng_of dL_debts cashL_range dL_pos) dL_pos hps h).clr;generalize PS 2 cashL dL ps q=p at hc;have h0:=hc.eq 0 (by omega);have h1:=hc.eq 1 (by omega);have t0:=hc.tot 0 (by omega);have t1:=hc.tot 1 (by omega);have s0:=hc.has 0 (by omega);have s1:=hc.has 1 (by omega);rw [live_tot.1,(live_has p).1] at *
 rw [live_tot.2,(live_has p).2] at *
 rcases h0 with a | a <;> rcases h1 with b | b <;> constructor <;> grind
theorem live_zero {ps:(Nat->Bool)->Nat->Rat} (hps:PsOK 2 cashL dL ps):NW 2 cashL dL ps 0 0=true/\NW 2 cashL dL ps 0 1=false:=by
 have hR:=rng_of dL_debts cashL_range dL_pos;obtain⟨x,hx⟩:=ps_rdy hps hR dL_pos 0;have h0:=hx.sol.no 0 (by omega) rfl;have h1:=hx.sol.no 1 (by omega) rfl;rw [live_tot.1] at h0;rw [live_tot.2] at h1;have e:∀ i,FS 2 cashL dL ps 0 i=false:=fun _=>rfl
 constructor
 ·rw [nw_iff,e,(live_has _).1,live_tot.1,h1];decide +kernel
 ·rw [nw_iff,e,(live_has _).2,live_tot.2,h0];decide +kernel
theorem live_one {ps:(Nat->Bool)->Nat->Rat} (hps:PsOK 2 cashL dL ps):∀ i,i<2->NW 2 cashL dL ps 1 i=false:=by
 have hR:=rng_of dL_debts cashL_range dL_pos;obtain⟨x,hx⟩:=ps_rdy hps hR dL_pos 1;obtain⟨n0,n1⟩:=live_zero hps;have f0:FS 2 cashL dL ps 1 0=true:=by rw [fs_succ,n0,Bool.or_true]
 have f1:FS 2 cashL dL ps 1 1=false:=by rw [fs_succ,n1];rfl
 have h0:=hx.sol.on 0 (by omega) f0;have h1:=hx.sol.no 1 (by omega) f1;rw [(live_has _).1] at h0;rw [live_tot.2] at h1;intro i hi;rw [nw_iff]
 match i,hi with
 | 0,_=>rw [f0];rfl
 | 1,_=>
  have h2:PS 2 cashL dL ps 1 0=3:=by
   have e:PS 2 cashL dL ps 1 1=2:=h1;have e2:PS 2 cashL dL ps 1 0=1+PS 2 cashL dL ps 1 1:=h0;rw [e2,e];decide +kernel
  rw [f1,(live_has _).2,live_tot.2,h2];decide +kernel
theorem live_last {ps:(Nat->Bool)->Nat->Rat} {q:Nat} (hps:PsOK 2 cashL dL ps) (h:Last 2 cashL dL ps q):q=1/\rwM 2 cashL dL ps 0=1/\rwF 2 cashL dL ps 0 0=0:=by
 obtain⟨n0,n1⟩:=live_zero hps;have e0:frL (NW 2 cashL dL ps 0) 2 = [0]:=by simp [frL,n0,n1]
 have m0:rwM 2 cashL dL ps 0=1:=by unfold rwM rankF;rw [e0];rfl
 have m1:rwM 2 cashL dL ps 1=0:=by
  unfold rwM rankF;have:frL (NW 2 cashL dL ps 1) 2 = []:=by simp [frL,live_one hps 0 (by omega),live_one hps 1 (by omega)]
  rw [this];rfl
 refine⟨?_,m0,by unfold rwF frN;rw [e0];rfl⟩;have h1:=h.zero;by_cases a:q=0
 ·subst a;omega
 ·by_cases b:q=1
  ·exact b
  ·have:=h.pos 1 (by omega);omega
theorem live_txt (N:Nat) (h1:0<N) (h2:N<10):FracTxt (digS N) ((N:Nat):Int) 1:=by
 refine⟨digS N,⟨1,⟨by simpa using h2,fun e=>by omega,fun _=>⟨by omega,by simp;omega⟩⟩,rfl,fun i hi=>?_⟩,.inl ⟨rfl,by rw [if_neg (by omega)]⟩⟩;have:i=0:=by rw [digS_size] at hi;omega
 subst this;have h3:N=1\/N=2\/N=3\/N=4\/N=5\/N=6\/N=7\/N=8\/N=9:=by omega
 rcases h3 with e | e | e | e | e | e | e | e | e <;> subst e <;> rfl
theorem clear_live2 (vc vd : Value) (w : World) (hc : Ints w vc 2 cashL) (hd : Mat w vd 2 (fun _ => 2) dL) :
  Calls Tryz.prog 11 #[vc,vd] w fun e w'=>∃ v,e = .returned (.tuple #[v,.int .i64 0])/\Sl w' v 2 (fun j=>.string (digS (payN j)))/\Below w.heap.size w w':=by
 obtain⟨ps,hps⟩:=ps_ex (rng_of dL_debts cashL_range dL_pos) (by omega) dL_pos;refine (clear_any vc vd 2 cashL (fun _=>2) dL ps w hc hd dL_debts cashL_range dL_pos hps).mono ?_;rintro e w' ⟨q,va,vk,ss,rfl,hl,ht,hs,hb⟩;obtain⟨p0,p1⟩:=live_pays hps hl;obtain⟨a,b,o,c,e,h2⟩:=hs;refine⟨_,rfl,⟨a,b,o,c,e,h2.congr (fun i hi=>?_)⟩,hb⟩;congr 1;have h:=ht.txt i hi
 match i,hi with
 | 0,_=>rw [p0] at h;exact h.uniq (live_txt 3 (by omega) (by omega))
 | 1,_=>rw [p1] at h;exact h.uniq (live_txt 2 (by omega) (by omega))
theorem fails_live2 (vc vd : Value) (w : World) (hc : Ints w vc 2 cashL) (hd : Mat w vd 2 (fun _ => 2) dL) :
  Calls Tryz.prog 15 #[vc,vd] w fun e w'=>∃ va vk,e = .returned (.tuple #[.slice va 1 vk,.int .i64 0])/\Mat w' (.slice va 1 vk) 1 (fun _=>1) (fun _ _=>0)/\Below w.heap.size w w':=by
 obtain⟨ps,hps⟩:=ps_ex (rng_of dL_debts cashL_range dL_pos) (by omega) dL_pos;refine (fails_any vc vd 2 cashL (fun _=>2) dL ps w hc hd dL_debts cashL_range dL_pos hps).mono ?_;rintro e w' ⟨q,va,vk,rfl,hl,hm,hb⟩;obtain⟨rfl,m0,f0⟩:=live_last hps hl;refine⟨va,vk,rfl,?_,hb⟩
 obtain⟨a,b,o,c,ra,rb,ro,rc,hv,h⟩:=hm.row_len (m':=fun _=>1) (fun i hi=>by
  obtain rfl:i=0:=by omega
  exact m0)
 refine⟨a,b,o,c,ra,rb,ro,rc,hv,⟨h.top,fun i hi=>(h.row i hi).congr (fun j hj=>?_)⟩⟩;obtain rfl:i=0:=by omega
 obtain rfl:j=0:=by omega
 unfold ic;rw [f0]
attribute [local go_sem ↓] Go.wp_at_zero Go.wp_at_succ
theorem before_eq (v1 v2 : Value) (n : Nat) (f : Nat -> Int) (w : World) (h1 : Ints w v1 n f) (h2 : Ints w v2 n f) (hn : n <= 1048576) :
  Calls Tryz.prog 91 #[v1,v2] w fun e w'=>e = .returned (.bool false)/\Drawn w w':=by
 obtain⟨a1,b1,o1,c1,rfl,s1⟩:=h1;obtain⟨a2,b2,o2,c2,rfl,s2⟩:=h2;have S1:=jj s1;have S2:=jj s2;clear s1 s2;go_enter Tryz.func91,Tryz.ntmps91;go_wp2;go_loopw [5] (fun v5 wr=>∃ k:Nat,k<=n/\v5 = .int .i64 (k:Nat)/\Hid (Drawn w wr)) (fun v5 _=>n - (intOf v5).toNat)
 case atStart=>exact⟨0,by omega,rfl,jj (Drawn.refl _)⟩
 case round=>
  obtain⟨k,hk,rfl,hd⟩:=hrel;by_cases h:k<n
  ·have d1:decide ((k:Int)<(n:Int))=true:=by simpa using h
   have d1n:decide (k<n)=true:=by simpa using h
   have ix1:=fun W=>ixI S1.out k c1 h W
   have ix2:=fun W=>ixI S2.out k c2 h W
   have x1:=(S1.out.drawn hd.out).cell k h;have x2:=(S2.out.drawn hd.out).cell k h;simp only [ic] at x1 x2;have d2:(f k != f k)=false:=by simp
   go_wp2
   go_quiet (fail)
   go_wp2;go_roundw
   case rel=>exact⟨k+1,by omega,by go_num,jj (hd.out.trans (Drawn.of _ _))⟩
   case measure=>simp [intOf];omega
  ·obtain rfl:k=n:=by omega
   have d1:decide ((k:Int)<(k:Int))=false:=by simp
   go_wp2;go_ret;exact⟨by first | rfl | (simp;done),hd.out⟩
theorem same_eq (v1 v2 : Value) (n : Nat) (f : Nat -> Int) (w : World) (h1 : Ints w v1 n f) (h2 : Ints w v2 n f) (hn : n <= 1048576) :
  Calls Tryz.prog 56 #[v1,v2] w fun e w'=>e = .returned (.bool true)/\Drawn w w':=by
 have H1:=jj h1;have H2:=jj h2;have HD:=jj (Drawn.refl w);clear h1 h2;go_enter Tryz.func56,Tryz.ntmps56
 go_wp2_with (first
  | (go_at_call 91;(with_reducible refine (before_eq v1 v2 n f _ (H1.out.drawn HD.out) (H2.out.drawn HD.out) hn).mono ?_);rintro e w1 ⟨rfl,hd⟩;have HD:=jj (HD.out.trans hd);clear hd)
  | (go_at_call 91;(with_reducible refine (before_eq v2 v1 n f _ (H2.out.drawn HD.out) (H1.out.drawn HD.out) hn).mono ?_);rintro e w2 ⟨rfl,hd⟩;have HD:=jj (HD.out.trans hd);clear hd))
 go_ret;exact⟨rfl,HD.out⟩
theorem sameLists_eq (v1 v2 : Value) (n : Nat) (m : Nat -> Nat) (f : Nat -> Nat -> Int) (w : World) (h1 : Mat w v1 n m f) (h2 : Mat w v2 n m f) (hn : n <= 1048576) (hm : ∀ i, i < n -> m i <= 1048576) :
  Calls Tryz.prog 25 #[v1,v2] w fun e w'=>e = .returned (.bool true)/\Drawn w w':=by
 obtain⟨a1,b1,o1,c1,ra1,rb1,ro1,rc1,rfl,s1⟩:=h1;obtain⟨a2,b2,o2,c2,ra2,rb2,ro2,rc2,rfl,s2⟩:=h2;have S1:=jj s1;have S2:=jj s2;have HM:=jj hm;clear s1 s2 hm;have d0:((n:Int) != (n:Int))=false:=by simp
 go_enter Tryz.func25,Tryz.ntmps25;go_wp2;go_loopw [5] (fun v5 wr=>∃ k:Nat,k<=n/\v5 = .int .i64 (k:Nat)/\Hid (Drawn w wr)) (fun v5 _=>n - (intOf v5).toNat)
 case atStart=>exact⟨0,by omega,rfl,jj (Drawn.refl _)⟩
 case round=>
  obtain⟨k,hk,rfl,hd⟩:=hrel;by_cases h:k<n
  ·have d1:decide ((k:Int)<(n:Int))=true:=by simpa using h
   have ix1:=fun W=>ixM S1.out.top k c1 h W
   have ix2:=fun W=>ixM S2.out.top k c2 h W
   have x1:=(S1.out.top.drawn hd.out).cell k h;have x2:=(S2.out.top.drawn hd.out).cell k h;go_wp2
   go_region_with (go_at_call 56;refine (same_eq _ _ (m k) (f k) _ ⟨_,_,_,_,rfl,((S1.out.drawn hd.out).row k h).drew⟩ ⟨_,_,_,_,rfl,((S2.out.drawn hd.out).row k h).drew⟩ (HM.out k h)).mono ?_;rintro e w1 ⟨rfl,hd1⟩)
   all_goals
    have HDD:=jj (hd.out.drew.trans hd1);clear hd1;go_wp2;go_roundw
    case rel=>exact⟨k+1,by omega,by go_num,HDD⟩
    case measure=>simp [intOf];omega
  ·obtain rfl:k=n:=by omega
   have d1:decide ((k:Int)<(k:Int))=false:=by simp
   go_wp2;go_ret;exact⟨rfl,hd.out⟩
theorem sameRow_eq (v1 v2 : Value) (n : Nat) (f : Nat -> ByteArray) (w : World) (h1 : Sl w v1 n (fun j => .string (f j))) (h2 : Sl w v2 n (fun j => .string (f j))) (hn : n <= 1048576) :
  Calls Tryz.prog 43 #[v1,v2] w fun e w'=>e = .returned (.bool true)/\Drawn w w':=by
 obtain⟨a1,b1,o1,c1,rfl,s1⟩:=h1;obtain⟨a2,b2,o2,c2,rfl,s2⟩:=h2;have S1:=jj s1;have S2:=jj s2;clear s1 s2;have d0:((n:Int) != (n:Int))=false:=by simp
 go_enter Tryz.func43,Tryz.ntmps43;go_wp2;go_loopw [5] (fun v5 wr=>∃ k:Nat,k<=n/\v5 = .int .i64 (k:Nat)/\Hid (Drawn w wr)) (fun v5 _=>n - (intOf v5).toNat)
 case atStart=>exact⟨0,by omega,rfl,jj (Drawn.refl _)⟩
 case round=>
  obtain⟨k,hk,rfl,hd⟩:=hrel;by_cases h:k<n
  ·have d1:decide ((k:Int)<(n:Int))=true:=by simpa using h
   have g1:(0:Int)<=(k:Int):=Int.natCast_nonneg k;have g2:(k:Int)<(n:Int):=by omega
   obtain rfl:=S1.out.at_ (by omega);obtain rfl:=S2.out.at_ (by omega);have x1:=(S1.out.drawn hd.out).cell k h;have x2:=(S2.out.drawn hd.out).cell k h;go_wp2
   go_quiet (fail)
   go_wp2;go_roundw
   case rel=>exact⟨k+1,by omega,by go_num,jj (hd.out.trans (Drawn.of _ _))⟩
   case measure=>simp [intOf];omega
  ·obtain rfl:k=n:=by omega
   have d1:decide ((k:Int)<(k:Int))=false:=by simp
   go_wp2;go_ret;exact⟨rfl,hd.out⟩
def fwdA (d r:Nat->Nat->Int) (i j:Nat):Arc:=⟨i,j,1,d i j - r i j,i,j⟩
def bwdA (r:Nat->Nat->Int) (i j:Nat):Arc:=⟨j,i,-1,r i j,i,j⟩
def arcsAt (d r:Nat->Nat->Int) (i j:Nat):List Arc:=(if r i j<d i j then [fwdA d r i j] else []) ++ (if 0<r i j then [bwdA r i j] else [])
def arcsRow (d r:Nat->Nat->Int) (i:Nat):Nat->List Arc
 | 0=>[]
 | j+1=>arcsRow d r i j ++ arcsAt d r i j
def arcsAll (d r:Nat->Nat->Int) (n:Nat):Nat->List Arc
 | 0=>[]
 | i+1=>arcsAll d r n i ++ arcsRow d r i n
def arcC (R:Nat) (a:Arc):List Value:=[.int .i64 (a.src:Nat),.int .i64 (a.dst:Nat),.int .i64 a.c,.int .i64 a.most,.pointer (some ⟨R+1+a.pi,a.pj,none⟩)]
def arcCs (R:Nat) (l:List Arc):List Value:=l.flatMap (arcC R)
theorem arcCs_app (R:Nat) (l:List Arc) (a:Arc):arcCs R l ++ arcC R a=arcCs R (l ++ [a]):=by simp [arcCs]
theorem arcsAt_len (d r:Nat->Nat->Int) (i j:Nat):(arcsAt d r i j).length<=2:=by unfold arcsAt;split <;> split <;> simp
theorem arcsRow_len (d r:Nat->Nat->Int) (i:Nat):∀ j,(arcsRow d r i j).length<=2*j
 | 0=>by simp [arcsRow]
 | j+1=>by have:=arcsRow_len d r i j;have:=arcsAt_len d r i j;simp only [arcsRow,List.length_append];omega
theorem arcsAll_len (d r:Nat->Nat->Int) (n:Nat):∀ i,(arcsAll d r n i).length<=2*n*i
 | 0=>by simp [arcsAll]
 | i+1=>by have:=arcsAll_len d r n i;have:=arcsRow_len d r i n;simp only [arcsAll,List.length_append,Nat.mul_succ];omega
theorem new5 (w:World) (R:Nat) (a:Arc) (t:TypeId):∀ j u,(arcC R a)[j]? = some u->(w.alloc (.cells (arcC R a).toArray t)).cell? ((⟨w.heap.size,0,none⟩:Addr).add j)=some u:=fun j u hj=>by
 have hadd:(⟨w.heap.size,0,none⟩:Addr).add j=⟨w.heap.size,j,none⟩:=by unfold Addr.add;split <;> simp_all
 rw [hadd];simp [go_sem];exact hj
theorem one5 (R:Nat) (a:Arc):∀ u ∈ arcC R a,u.oneCell'=true:=fun u hu=>by
 simp [arcC] at hu;rcases hu with rfl | rfl | rfl | rfl | rfl <;> rfl
theorem infoA:(Tryz.prog.info? 164).map (fun i=>(i.zero,i.size,i.bytes))=some (some (.agg #[.int .i64 0,.int .i64 0,.int .i64 0,.int .i64 0,.pointer none]),5,40):=by kernel_rfl
theorem arcs_any (vd : Value) (R n : Nat) (d r : Nat -> Nat -> Int) (w : World) (hd : Mat w vd n (fun _ => n) d) (hr : OwnMat w R n r) (hn : n <= 8) (hRB : R + 1 + n <= w.heap.size) (hR : ∀ i j, i < n -> j < n -> 0 <= r i j /\ r i j <= d i j /\ d i j <= 1000) :
    Calls Tryz.prog 118 #[vd,.slice (some ⟨R,0,none⟩) n n] w fun e w'=>∃ va vk,e = .returned (.slice va (arcsAll d r n n).length vk)/\w'.ownsRow w.heap.size 164 5 (.slice va (arcsAll d r n n).length vk) (arcsAll d r n n).length (arcCs R (arcsAll d r n n))/\Below w.heap.size w w':=by
  obtain⟨a,b,o,c,ra,rb,ro,rc,rfl,hs⟩:=hd;have hm:=hr.isMat;have HS:=jj hs;have HM:=jj hm;have HRR:=jj hR;have HRB:=jj hRB;obtain⟨i0,hi,hz0,hz1,hz2⟩:=info_parts infoA;have KW0:=jj (jr w);clear hs hm hR hr hRB;go_enter Tryz.func118,Tryz.ntmps118;go_wp2;go_loopw [5,12] (fun v5 v12 wr=>∃ k:Nat,k<=n/\v12 = .int .i64 (k:Nat)/\∃ va vk,v5 = .slice va (arcsAll d r n k).length vk/\Hid (wr.ownsRow w.heap.size 164 5 (.slice va (arcsAll d r n k).length vk) (arcsAll d r n k).length (arcCs R (arcsAll d r n k)))/\Hid (Below w.heap.size w wr)) (fun _ v12 _=>n - (intOf v12).toNat)
  case atStart=>exact⟨0,by omega,rfl,none,0,rfl,jj (World.ownsRow_nil _ _ _ _),KW0⟩
  case round=>
    clear KW0;obtain⟨k,hk,rfl,va0,vk0,rfl,OW0,KW0⟩:=hrel;by_cases h:k<n
    · have HL:=jj (arcsAll_len d r n k)
      have OW0:Hid (wr.ownsRow w.heap.size 164 5 (.slice va0 (arcsAll d r n k ++ arcsRow d r k 0).length vk0) (arcsAll d r n k ++ arcsRow d r k 0).length (arcCs R (arcsAll d r n k ++ arcsRow d r k 0))):=by simpa [arcsRow] using OW0
      have hl0:(arcsAll d r n k).length=(arcsAll d r n k ++ arcsRow d r k 0).length:=by simp [arcsRow]
      rw [hl0];clear hl0;go_wp2;go_loopw [5,17] (fun v5 v17 wr=>∃ j:Nat,j<=n/\v17 = .int .i64 (j:Nat)/\∃ va vk,v5 = .slice va (arcsAll d r n k ++ arcsRow d r k j).length vk/\Hid (wr.ownsRow w.heap.size 164 5 (.slice va (arcsAll d r n k ++ arcsRow d r k j).length vk) (arcsAll d r n k ++ arcsRow d r k j).length (arcCs R (arcsAll d r n k ++ arcsRow d r k j)))/\Hid (Below w.heap.size w wr)) (fun _ v17 _=>n - (intOf v17).toNat)
      case atStart=>exact⟨0,by omega,rfl,va0,vk0,rfl,OW0,KW0⟩
      case round=>
        clear OW0 KW0;obtain⟨j,hj,rfl,va,vk,rfl,OW,KW⟩:=hrel;by_cases h2:j<n
        · have hm:=HM.out.mono KW.out jl
          have hs:=HS.out.mono KW.out jl;have x1:=fun W=>ixM hm.top k n h W
          have x2:=fun W=>ixI (hm.row k h) j n h2 W
          have x3:=fun W=>ixM hs.top k c h W
          have x4:=fun W=>ixI (hs.row k h) j (rc k) h2 W
          have y1:=hm.top.cell k h;have y2:=(hm.row k h).cell j h2;have y3:=hs.top.cell k h;have y4:=(hs.row k h).cell j h2;simp only [ic,Nat.zero_add] at x1 x2 y1 y2 y4;obtain⟨b1,b2,b3⟩:=HRR.out k j h h2
          have hlen:(arcsAll d r n k ++ arcsRow d r k j).length<=200:=by
            have:=HL.out;have:=arcsRow_len d r k j;have h5:2*n*k<=2*8*8:=Nat.mul_le_mul (by omega) (by omega);rw [List.length_append];omega
          have HLEN:=jj hlen;have HSZ:=jj KW.out.size;have HRL:=jj (show R+1+k<w.heap.size by have:=HRB.out;omega);have HBL:=jj (show b<w.heap.size/\rb k<w.heap.size from ⟨HS.out.top.lt (by omega),(HS.out.row k h).lt (by omega)⟩);clear hm hs hlen;obtain⟨L,hL⟩:∃ L,L=arcsAll d r n k ++ arcsRow d r k j:=⟨_,rfl⟩;rw [<-hL] at OW HLEN ⊢;have HLL:=jj hL;clear hL;obtain⟨N,hN⟩:∃ N,N=L.length:=⟨_,rfl⟩;rw [<-hN] at OW HLEN ⊢;have HN:=jj hN;clear hN;by_cases hf:r k j<d k j
          · have d1:decide (r k j<d k j)=true:=by simpa using hf
            have HF:=jj hf;clear hf;go_wp2
            go_quiet (fail)
            go_wp2;have OW:=jj (show (wr.drewN nq).ownsRow _ _ _ _ _ _ from OW.out);have KW:=jj (below_drawN KW.out nq);have HSZ:=jj KW.out.size;have HBK:=jj OW.out.lt;have y2:(wr.drewN nq).cell? _=_:=y2;have y3:(wr.drewN nq).cell? _=_:=y3;have y4:(wr.drewN nq).cell? _=_:=y4;clear y1;have hwr:IntKind.i64.wrap (d k j - r k j)=d k j - r k j:=by rw [IntKind.wrap_i64];omega
            have g0:(0:Int)<=(k:Int):=Int.natCast_nonneg k;have g1:(0:Int)<=(j:Int):=Int.natCast_nonneg j;have g2:(k:Int)<(n:Int):=by omega
            have g3:(j:Int)<(n:Int):=by omega
            generalize wr.drewN nq=wA at *
            have hR:=HRL.out;have hbA:=HBL.out.1;have hbB:=HBL.out.2
            go_region_held3 (fun w'=>w'.cell? ⟨b,o+k,none⟩=some (.slice (ra k) n (rc k))/\w'.cell? ⟨rb k,ro k+j,none⟩=some (.int .i64 (d k j))/\w'.cell? ⟨R+1+k,j,none⟩=some (.int .i64 (r k j)))
              (first
                | go_keep
                | (go_split_ands
                   have q1:Value.ownBlock (.slice va N vk)≠some b:=fun e=>by have:=(HBK.out b e).1;omega
                   have q2:Value.ownBlock (.slice va N vk)≠some (rb k):=fun e=>by have:=(HBK.out (rb k) e).1;omega
                   have q3:Value.ownBlock (.slice va N vk)≠some (R+1+k):=fun e=>by have:=(HBK.out (R+1+k) e).1;omega
                   have hz:=HSZ.out;refine⟨?_,?_,?_⟩
                   · (rw [hgrow.cell_far _ (by simp;omega) (Ne.symm q1)];assumption)
                   · (rw [hgrow.cell_far _ (by simp;omega) (Ne.symm q2)];assumption)
                   · (rw [hgrow.cell_far _ (by simp;omega) (Ne.symm q3)];assumption)))
              ((refine step_append_lies _ (by rfl) _ _ _ (by rfl) w.heap.size 164 i0 _ 5 40 Tryz.underlying158 hi hz0 hz1 hz2 rfl (by omega) (.slice va N vk) N (arcCs R L) (by rfl) (OW.out.alloc _)
                  ⟨wA.heap.size,0,none⟩ 1 1 (arcC R (fwdA d r k j)) (by rfl) (by rfl) (new5 wA R (fwdA d r k j) _) (one5 R (fwdA d r k j))
                  (by omega) (by have:=HLEN.out;unfold maxLen;omega) (by have:=HLEN.out;omega) (by simp;have:=HSZ.out;omega) (wA.heap.size+1) (by simp) ?_;intro gg cap w1 hown1 hgrow hat hlt))
            rw [arcCs_app] at hown1;have OW:=jj hown1;have KW:=jj (((KW.out.alloc KW.out.size _).drew).grown hgrow (by have:=HSZ.out;simp;omega) (fun kk e=>(HBK.out kk e).1));clear hown1 hgrow hat hlt y2 y3 y4;have hm:=HM.out.mono KW.out jl;have y1:=hm.top.cell k h;have y2:=(hm.row k h).cell j h2;simp only [ic,Nat.zero_add] at y1 y2;clear hm;by_cases hp:0<r k j
            · have d2:decide (0<r k j)=true:=by simpa using hp
              have HP:=jj hp;have HBK:=jj OW.out.lt;have HSZ:=jj KW.out.size;clear hp;go_wp2_with (at_builtin;refine wpList_append_own _ rfl (.tmp 65) (.tmp 73) 158 rfl w.heap.size 164 i0 _ 5 40 Tryz.underlying158 hi hz0 hz1 hz2 rfl (by decide) (.slice (some ⟨gg,0,none⟩) (N+1) cap) (N+1) (arcCs R (L ++ [fwdA d r k j])) rfl (OW.out.alloc _) ⟨w1.heap.size,0,none⟩ 1 1 (arcC R (bwdA r k j)) rfl rfl (new5 w1 R (bwdA r k j) _) (one5 R (bwdA r k j)) (by have:=HLEN.out;unfold maxLen;omega) (by have:=HLEN.out;omega) (by simp;have:=HSZ.out;omega) ?_;intro v' w3 hown hgrow _;have KW:=jj ((KW.out.alloc KW.out.size _).grown hgrow (by have:=HSZ.out;simp;omega) (fun kk e=>(HBK.out kk e).1));rw [arcCs_app] at hown;obtain⟨va',vk',rfl⟩:=own_shape hown;have OW:=jj hown;clear hown hgrow);go_roundw
              case rel=>
                have e:arcsAll d r n k ++ arcsRow d r k (j+1)=L ++ [fwdA d r k j] ++ [bwdA r k j]:=by
                  have:=HLL.out;simp only [arcsRow,<-List.append_assoc,<-this,arcsAt,if_pos HF.out,if_pos HP.out]
                  try simp
                have e2:(L ++ [fwdA d r k j] ++ [bwdA r k j]).length=N+1+1:=by have:=HN.out;(try simp);omega
                refine⟨j+1,by omega,by go_num,va',vk',?_,?_,KW⟩
                · rw [e,e2]
                · rw [e,e2];exact OW
              case measure=>simp [intOf];omega
            · have d2:decide (0<r k j)=false:=by simpa using hp
              have HP:=jj hp;clear hp;go_wp2;go_roundw
              case rel=>
                have e:arcsAll d r n k ++ arcsRow d r k (j+1)=L ++ [fwdA d r k j]:=by
                  have:=HLL.out;simp only [arcsRow,<-List.append_assoc,<-this,arcsAt,if_pos HF.out,if_neg (show ¬ 0<r k j by have:=HP.out;omega)]
                  try simp
                have e2:(L ++ [fwdA d r k j]).length=N+1:=by have:=HN.out;(try simp);omega
                refine⟨j+1,by omega,by go_num,(some ⟨gg,0,none⟩),cap,?_,?_,KW⟩
                · rw [e,e2]
                · rw [e,e2];exact OW
              case measure=>simp [intOf];omega
          · have d1:decide (r k j<d k j)=false:=by simpa using hf
            have HF:=jj hf;clear hf;go_wp2
            go_quiet (fail)
            have OW:=jj (show (wr.drewN nq).ownsRow _ _ _ _ _ _ from OW.out);have KW:=jj (below_drawN KW.out nq);clear y1 y2 y3 y4;generalize wr.drewN nq=wA at *
            have hm:=HM.out.mono KW.out jl;have y1:=hm.top.cell k h;have y2:=(hm.row k h).cell j h2;simp only [ic,Nat.zero_add] at y1 y2;clear hm;by_cases hp:0<r k j
            · have d2:decide (0<r k j)=true:=by simpa using hp
              have HP:=jj hp;have HBK:=jj OW.out.lt;have HSZ:=jj KW.out.size;clear hp;go_wp2_with (at_builtin;refine wpList_append_own _ rfl (.tmp 65) (.tmp 73) 158 rfl w.heap.size 164 i0 _ 5 40 Tryz.underlying158 hi hz0 hz1 hz2 rfl (by decide) (.slice va (N) vk) (N) (arcCs R (L)) rfl (OW.out.alloc _) ⟨wA.heap.size,0,none⟩ 1 1 (arcC R (bwdA r k j)) rfl rfl (new5 wA R (bwdA r k j) _) (one5 R (bwdA r k j)) (by have:=HLEN.out;unfold maxLen;omega) (by have:=HLEN.out;omega) (by simp;have:=HSZ.out;omega) ?_;intro v' w3 hown hgrow _;have KW:=jj ((KW.out.alloc KW.out.size _).grown hgrow (by have:=HSZ.out;simp;omega) (fun kk e=>(HBK.out kk e).1));rw [arcCs_app] at hown;obtain⟨va',vk',rfl⟩:=own_shape hown;have OW:=jj hown;clear hown hgrow);go_roundw
              case rel=>
                have e:arcsAll d r n k ++ arcsRow d r k (j+1)=L ++ [bwdA r k j]:=by
                  have:=HLL.out;simp only [arcsRow,<-List.append_assoc,<-this,arcsAt,if_neg (show ¬ r k j<d k j by have:=HF.out;omega),if_pos HP.out]
                  try simp
                have e2:(L ++ [bwdA r k j]).length=N+1:=by have:=HN.out;(try simp);omega
                refine⟨j+1,by omega,by go_num,va',vk',?_,?_,KW⟩
                · rw [e,e2]
                · rw [e,e2];exact OW
              case measure=>simp [intOf];omega
            · have d2:decide (0<r k j)=false:=by simpa using hp
              have HP:=jj hp;clear hp;go_wp2;go_roundw
              case rel=>
                have e:arcsAll d r n k ++ arcsRow d r k (j+1)=L:=by
                  have:=HLL.out;simp only [arcsRow,<-List.append_assoc,<-this,arcsAt,if_neg (show ¬ r k j<d k j by have:=HF.out;omega),if_neg (show ¬ 0<r k j by have:=HP.out;omega)]
                  try simp
                have e2:(L).length=N:=by have:=HN.out;(try simp);omega
                refine⟨j+1,by omega,by go_num,va,vk,?_,?_,KW⟩
                · rw [e,e2]
                · rw [e,e2];exact OW
              case measure=>simp [intOf];omega
        · obtain rfl:j=n:=by omega
          go_wp2;go_roundw
          case rel=>exact⟨k+1,by omega,by go_num,va,vk,rfl,OW,KW⟩
          case measure=>simp [intOf];omega
    · skip
      obtain rfl:k=n:=by omega
      go_wp2;go_ret;exact⟨va0,vk0,rfl,OW0.out,KW0.out⟩
end Go.Proofs.YtgmopcncbpdniaaGreat
namespace Go.Proofs.YtgmopcncbpdniaaGreat
open Go.RowKit
structure ArcRow (w:World) (g m R:Nat) (l:Nat->Arc):Prop where
 c0:∀ k,k<m->w.cell? ⟨g,k*5,none⟩=some (.int .i64 ((l k).src:Nat))
 c1:∀ k,k<m->w.cell? ⟨g,k*5+1,none⟩=some (.int .i64 ((l k).dst:Nat))
 c2:∀ k,k<m->w.cell? ⟨g,k*5+2,none⟩=some (.int .i64 (l k).c)
 c3:∀ k,k<m->w.cell? ⟨g,k*5+3,none⟩=some (.int .i64 (l k).most)
 c4:∀ k,k<m->w.cell? ⟨g,k*5+4,none⟩=some (.pointer (some ⟨R+1+(l k).pi,(l k).pj,none⟩))
 lt:g<w.heap.size
theorem ArcRow.below {w w':World} {g m R B:Nat} {l:Nat->Arc} (h:ArcRow w g m R l) (hb:Below B w w') (hB:g<B):ArcRow w' g m R l:=
 ⟨fun k hk=>(hb.cell (p:=⟨g,_,none⟩) hB).trans (h.c0 k hk),fun k hk=>(hb.cell (p:=⟨g,_,none⟩) hB).trans (h.c1 k hk),fun k hk=>(hb.cell (p:=⟨g,_,none⟩) hB).trans (h.c2 k hk),fun k hk=>(hb.cell (p:=⟨g,_,none⟩) hB).trans (h.c3 k hk),fun k hk=>(hb.cell (p:=⟨g,_,none⟩) hB).trans (h.c4 k hk),jm h.lt hb.size⟩
theorem arcCs_get (R f:Nat) (hf:f<5):∀ (L:List Arc) (k:Nat) (a:Arc),L[k]? = some a->(arcCs R L)[k*5+f]? = (arcC R a)[f]?
 | [],k,a,h=>by simp at h
 | b :: L,0,a,h=>by
  simp at h;subst h;show (arcC R b ++ arcCs R L)[0*5+f]? = _;rw [Nat.zero_mul,Nat.zero_add,List.getElem?_append_left (by simp [arcC];omega)]
 | b :: L,k+1,a,h=>by
  have ih:=arcCs_get R f hf L k a (by simpa using h);show (arcC R b ++ arcCs R L)[(k+1)*5+f]? = _;rw [List.getElem?_append_right (by simp [arcC];omega)];have:(k+1)*5+f - (arcC R b).length=k*5+f:=by simp [arcC];omega
  rw [this];exact ih
theorem ArcRow.of_own {w:World} {base g n cap R:Nat} {L:List Arc} {l:Nat->Arc} (h:w.ownsRow base 164 5 (.slice (some ⟨g,0,none⟩) n cap) n (arcCs R L)) (hl:∀ k,k<n->L[k]? = some (l k)) (hg:g<w.heap.size):ArcRow w g n R l:=
  ⟨fun k hk=>(h.cellAt (k*5) (by omega)).trans (arcCs_get R 0 (by omega) L k _ (hl k hk)),
   fun k hk=>(h.cellAt (k*5+1) (by omega)).trans (arcCs_get R 1 (by omega) L k _ (hl k hk)),
   fun k hk=>(h.cellAt (k*5+2) (by omega)).trans (arcCs_get R 2 (by omega) L k _ (hl k hk)),
   fun k hk=>(h.cellAt (k*5+3) (by omega)).trans (arcCs_get R 3 (by omega) L k _ (hl k hk)),
   fun k hk=>(h.cellAt (k*5+4) (by omega)).trans (arcCs_get R 4 (by omega) L k _ (hl k hk)),hg⟩
theorem own_cap {w:World} {base e size n:Nat} {a:Option Addr} {c:Nat} {xs:List Value} (h:w.ownsRow base e size (.slice a n c) n xs):n<=c:=by
 rcases h.2 with ⟨h1,h2⟩ | ⟨g,cap,cur,h1,_,_,h2,_⟩
 ·rw [h2];exact Nat.zero_le _
 ·cases h1;exact h2
section
variable {d r:Nat->Nat->Int}
theorem mem_at {i j:Nat} {a:Arc} : a ∈ arcsAt d r i j↔(r i j<d i j/\a=fwdA d r i j)\/(0<r i j/\a=bwdA r i j):=by
 unfold arcsAt;by_cases h1:r i j<d i j <;> by_cases h2:0<r i j <;> simp [h1,h2]
theorem mem_row {i:Nat} {a:Arc} : ∀ {J:Nat},a ∈ arcsRow d r i J↔∃ j,j<J/\a ∈ arcsAt d r i j
 | 0=>by simp [arcsRow]
 | J+1=>by
  simp only [arcsRow,List.mem_append];rw [mem_row];constructor
  ·rintro (⟨j,hj,h⟩ | h)
   ·exact⟨j,by omega,h⟩
   ·exact⟨J,by omega,h⟩
  ·rintro ⟨j,hj,h⟩;by_cases e:j=J
   ·subst e;exact .inr h
   ·exact .inl ⟨j,by omega,h⟩
theorem mem_all {n:Nat} {a:Arc} : ∀ {N:Nat},a ∈ arcsAll d r n N↔∃ i j,i<N/\j<n/\a ∈ arcsAt d r i j
 | 0=>by simp [arcsAll]
 | N+1=>by
  simp only [arcsAll,List.mem_append];rw [mem_all,mem_row];constructor
  ·rintro (⟨i,j,hi,hj,h⟩ | ⟨j,hj,h⟩)
   ·exact⟨i,j,by omega,hj,h⟩
   ·exact⟨N,j,by omega,hj,h⟩
  ·rintro ⟨i,j,hi,hj,h⟩;by_cases e:i=N
   ·subst e;exact .inr ⟨j,hj,h⟩
   ·exact .inl ⟨i,j,by omega,hj,h⟩
def arcF (L:List Arc) (k:Nat):Arc:=L.getD k ⟨0,0,0,0,0,0⟩
theorem arcF_get (L:List Arc) (k:Nat) (h:k<L.length):L[k]? = some (arcF L k):=by
 simp [arcF,List.getD,List.getElem?_eq_getElem h]
theorem arcF_mem (L:List Arc) (k:Nat) (h:k<L.length):arcF L k ∈ L:=List.mem_of_getElem? (arcF_get L k h)
theorem mem_arcF {L:List Arc} {a:Arc} (h:a ∈ L):∃ k,k<L.length/\arcF L k=a:=by
 obtain⟨k,hk,e⟩:=List.getElem_of_mem h;refine⟨k,hk,?_⟩;have:=arcF_get L k hk;rw [List.getElem?_eq_getElem hk,e] at this;exact (Option.some.inj this).symm
theorem arcs_ok {n:Nat} (h:∀ i j,i<n->j<n->0<=r i j/\r i j<=d i j) (hd:∀ i,i<n->d i i=0):ArcsOK n (arcsAll d r n n).length (arcF (arcsAll d r n n)) d r where
 sound:=fun k hk=>by
  obtain⟨i,j,hi,hj,hm⟩:=mem_all.1 (arcF_mem _ k hk);have hb:=h i j hi hj
  have hne:i≠j:=fun e=>by
   subst e;rw [hd i hi] at hb;rcases mem_at.1 hm with ⟨q,_⟩ | ⟨q,_⟩
   ·rw [hd i hi] at q;omega
   ·omega
  rcases mem_at.1 hm with ⟨q,e⟩ | ⟨q,e⟩
  ·rw [e];exact⟨hi,hj,hne,.inl ⟨rfl,rfl,rfl,q,rfl⟩⟩
  ·rw [e];exact⟨hi,hj,hne,.inr ⟨rfl,rfl,rfl,q,rfl⟩⟩
 fwd:=fun i j hi hj q=>by
  obtain⟨k,hk,e⟩:=mem_arcF (mem_all.2 ⟨i,j,hi,hj,mem_at.2 (.inl ⟨q,rfl⟩)⟩);exact⟨k,hk,by rw [e];rfl,by rw [e];rfl,by rw [e];rfl⟩
 bwd:=fun i j hi hj q=>by
  obtain⟨k,hk,e⟩:=mem_arcF (mem_all.2 ⟨i,j,hi,hj,mem_at.2 (.inr ⟨q,rfl⟩)⟩);exact⟨k,hk,by rw [e];rfl,by rw [e];rfl,by rw [e];rfl⟩
theorem arcs_cost {n:Nat} (k:Nat) (hk:k<(arcsAll d r n n).length):(arcF (arcsAll d r n n) k).c=1\/(arcF (arcsAll d r n n) k).c = -1:=by
 obtain⟨i,j,hi,hj,hm⟩:=mem_all.1 (arcF_mem _ k hk);rcases mem_at.1 hm with ⟨q,e⟩ | ⟨q,e⟩
 ·rw [e];exact .inl rfl
 ·rw [e];exact .inr rfl
theorem arcsRow_len2 {i:Nat} (hz:d i i=0) (hr:r i i=0):∀ j,i<j->(arcsRow d r i j).length<=2*(j - 1)
 | 0,h=>by omega
 | j+1,h=>by
  simp only [arcsRow,List.length_append];by_cases e:i=j
  ·subst e;have:=arcsRow_len d r i i;have h2:arcsAt d r i i = []:=by unfold arcsAt;rw [hz,hr];simp
   rw [h2];simp;omega
  ·have:=arcsRow_len2 hz hr j (by omega);have:=arcsAt_len d r i j;omega
theorem arcs_len {n:Nat} (h:∀ i j,i<n->j<n->0<=r i j/\r i j<=d i j) (hd:∀ i,i<n->d i i=0):∀ i,i<=n->(arcsAll d r n i).length<=2*(n - 1)*i
 | 0,_=>by simp [arcsAll]
 | i+1,hi=>by
  have:=arcs_len h hd i (by omega);have hb:=h i i (by omega) (by omega);have hz:=hd i (by omega);have:=arcsRow_len2 (d:=d) (r:=r) (i:=i) hz (by omega) n (by omega);simp only [arcsAll,List.length_append,Nat.mul_succ];omega
end
end Go.Proofs.YtgmopcncbpdniaaGreat
