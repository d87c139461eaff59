import Derived.Test.YtgmopcncbpdniaaGreatKShelf
import Derived.Test.YtgmopcncbpdniaaGreatKBig3
import Derived.Test.YtgmopcncbpdniaaGreatKOwn
import Derived.Deep.RegionHeld3
import Derived.Deep.DrawnRows
set_option maxHeartbeats 4000000
set_option linter.unusedVariables false
set_option linter.unusedSimpArgs false
namespace Go.Proofs.YtgmopcncbpdniaaGreat
open Go.RowKit
attribute [local go_sem ↓] Go.wp_at_zero Go.wp_at_succ
theorem dg_keep {w w':World} {u:Value} {x:Nat} (h:Dg w u x) (hb:Below w.heap.size w w'):Dg w' u x/\Below w.heap.size w w':=⟨h.mono hb jl,hb⟩
theorem bneg_any (u:Value) (s:Bool) (x:Nat) (w:World) (hu:Dg w u x) :
  Calls Tryz.prog 93 #[.agg #[.bool s,u]] w fun e w'=>e = .returned (.agg #[.bool (!s && decide (0<x)),u])/\Dg w' u x/\Below w.heap.size w w':=by
 have HU:=jj hu;obtain⟨a1,b1,o1,c1,rfl,i1⟩:=hu;have hp:=nd_pos x;clear i1;cases s with
 | true=>
  clear hp;go_enter Tryz.func93,Tryz.ntmps93;go_wp2;refine bodyPost_ret (v:=.agg #[.bool false,.slice a1 (nd x) c1]) (by simp [results,Tryz.results93,go_sem]) rfl ⟨by simp,dg_keep HU.out ?_⟩;exact boxes2 w _ _
 | false=>
  by_cases h:0<x
  ·have h2:0<nd x:=hp.2 h;have d2:decide ((0:Int)<((nd x:Nat):Int))=true:=by simp;omega
   have HH:=jj h;clear hp h;go_enter Tryz.func93,Tryz.ntmps93;go_wp2;refine bodyPost_ret (v:=.agg #[.bool true,.slice a1 (nd x) c1]) (by simp [results,Tryz.results93,go_sem]) rfl ⟨by simp [HH.out],dg_keep HU.out ?_⟩;exact boxes2 w _ _
  ·have h2:¬ 0<nd x:=fun q=>h (hp.1 q)
   have d2:decide ((0:Int)<((nd x:Nat):Int))=false:=by simp;omega
   have HH:=jj h;clear hp h;go_enter Tryz.func93,Tryz.ntmps93;go_wp2;refine bodyPost_ret (v:=.agg #[.bool false,.slice a1 (nd x) c1]) (by simp [results,Tryz.results93,go_sem]) rfl ⟨by simp [HH.out],dg_keep HU.out ?_⟩;exact boxes2 w _ _
theorem babs_any (u:Value) (s:Bool) (x:Nat) (w:World) (hu:Dg w u x) :
  Calls Tryz.prog 120 #[.agg #[.bool s,u]] w fun e w'=>e = .returned (.agg #[.bool false,u])/\Dg w' u x/\Below w.heap.size w w':=by
 have HU:=jj hu;obtain⟨a1,b1,o1,c1,rfl,i1⟩:=hu;clear i1;go_enter Tryz.func120,Tryz.ntmps120;go_wp2;refine bodyPost_ret (v:=.agg #[.bool false,.slice a1 (nd x) c1]) (by simp [results,Tryz.results120,go_sem]) rfl ⟨rfl,dg_keep HU.out ?_⟩;exact boxes2 w _ _
def sgZ (z:Int):Int:=if z<0 then -1 else if z=0 then 0 else 1
theorem bsign_any (v:Value) (z:Int) (m:Nat) (w:World) (hv:ZIs w v z m) :
  Calls Tryz.prog 29 #[v] w fun e w'=>e = .returned (.int .i64 (sgZ z))/\Below w.heap.size w w':=by
 obtain⟨u,rfl,hu,_⟩:=hv;obtain⟨a1,b1,o1,c1,rfl,i1⟩:=hu;have hp:=nd_pos z.natAbs;clear i1;by_cases h0:z=0
 ·subst h0;have e0:nd (0:Int).natAbs=0:=nd_zero;have HS:Hid (sgZ 0=0):=jj (by simp [sgZ]);rw [e0];clear hp e0;go_enter Tryz.func29,Tryz.ntmps29;go_wp2;go_ret;exact⟨by rw [HS.out];rfl,boxes1 w _⟩
 ·have h2:0<nd z.natAbs:=hp.2 (by omega);have d2:(((nd z.natAbs:Nat):Int) == 0)=false:=by simp;omega
  have d3:¬ nd z.natAbs=0:=by omega
  clear hp;by_cases h1:z<0
  ·have e1:decide (z<0)=true:=by simpa using h1
   rw [e1];have HS:Hid (sgZ z = -1):=jj (by unfold sgZ;rw [if_pos h1]);clear e1 h1 h0;go_enter Tryz.func29,Tryz.ntmps29;go_wp2;go_ret;exact⟨by rw [HS.out];rfl,boxes1 w _⟩
  ·have e1:decide (z<0)=false:=by simpa using h1
   rw [e1];have HS:Hid (sgZ z=1):=jj (by unfold sgZ;rw [if_neg h1,if_neg h0]);clear e1 h1 h0;go_enter Tryz.func29,Tryz.ntmps29;go_wp2;go_ret;exact⟨by rw [HS.out];rfl,boxes1 w _⟩
end Go.Proofs.YtgmopcncbpdniaaGreat
namespace Go.Proofs.YtgmopcncbpdniaaGreat
open Go.RowKit
theorem lz_any (x s:Nat) (hx:x<4294967296) (hs:(32 - (Lib.bitLen x:Int))=(s:Int)) (W:World) :
  Calls Tryz.prog 146 #[.int .u32 (x:Nat)] W fun e w'=>e = .returned (.int .i64 (s:Nat))/\W=w':=by
 refine (Tryz.bits_LeadingZeros32 (x:Int) W (by omega) (by omega)).mono ?_;rintro e w' ⟨rfl,rfl⟩;rw [Int.toNat_natCast,hs];exact⟨rfl,rfl⟩
theorem slice_win (g cap j n:Nat) (hn:j+n+1<=cap) (W:World) :
  (Instr.slice 88 (.slice (some ⟨g,0,none⟩) cap cap) (some (.int .i64 (j:Int))) (some (.int .i64 ((j:Int)+n+1))) none).run Tryz.prog W = .ok (.slice (some ⟨g,j,none⟩) (n+1) (cap - j)) W:=by
 rw [run_slice_lh W _ _ _ _ u32s _ _ _ _ (by omega) (by omega) (by omega),s32s];simp only [Result.andThen,sliced];rw [show ((j:Int)).toNat=j from rfl,show ((j:Int)+n+1).toNat=j+n+1 from by omega,if_neg (by omega)];congr 2
 ·simp only [Option.map_some,Nat.mul_one,Addr.add];split <;> simp_all
 ·omega
theorem row_grown {w w':World} {b t n g:Nat} {q:Nat->Value} (h:w.rowIs b t n q) (hg:w.grownBy w' (some g)) (hne:b≠g):w'.rowIs b t n q:=
 h.of_block (hg.block b h.lt (by intro e;exact hne (Option.some.inj e)))
theorem row_below {w w':World} {b t n B:Nat} {q:Nat->Value} (h:w.rowIs b t n q) (hb:Below B w w') (hB:w.heap.size<=B):w'.rowIs b t n q:=
 h.of_block (hb.block b (jm h.lt hB))
theorem part_many (u v:Value) (x y:Nat) (w:World) (hu:Mag w u x) (hv:Mag w v y) (hle:y<=x) (hny:2<=nl y) (bx:nl x<=549755813888) :
  Calls Tryz.prog 134 #[u,v] w fun e w'=>∃ q r,e = .returned (.tuple #[q,r])/\Mag w' q (x / y)/\Mag w' r (x % y)/\Below w.heap.size w w':=by
 have hcm:0<=cmpN x y:=by unfold cmpN;rw [if_neg (by omega)];split <;> omega
 have hnxy:=nl_mono hle;have hyp:0<y:=by rw [<-nl_pos];omega
 obtain⟨s,hs32,hsb,hsn,hst⟩:=shift_facts y (nl y) rfl (by omega);have hp0:0<2 ^ s:=Nat.two_pow_pos s;have HC:=jj (fun (W:World)=>compare_any u v x y W);have HLZ:=jj (lz_any (dig y (nl y - 1)) s (dig_lt _ _) hsb);have HU:=jj hu;have HV:=jj hv;obtain⟨a1,b1,o1,c1,rfl,i1⟩:=hu;obtain⟨a2,b2,o2,c2,rfl,i2⟩:=hv;have hc:=i2.cell (nl y - 1) (by omega);simp only [lc] at hc;have hx0:=fun W=>ix32 i2 ((nl y:Int) - 1) (by omega) (by omega) (nl y) c2 W
 rw [show ((nl y:Int) - 1).toNat=nl y - 1 from by omega] at hx0
 have htr:trimN (dig (y*2 ^ s)) (nl y+1)=nl y:=by
  rw [<-nl_valF _ _ (fun i _=>dig_lt _ _),valF_dig_le _ _ (by omega),hsn]
 have hl1:(((nl y:Nat):Int) == 1)=false:=by simp;omega
 have HST:=jj hst;have HSN:=jj hsn;have HLE:=jj hle;clear hsb hst hsn hle;go_enter Tryz.func134,Tryz.ntmps134;go_wp2_with (first | (go_at_call 105;refine (HC.out _ HU.out HV.out (by omega) (by omega)).mono ?_;rintro e w' ⟨rfl,nd,rfl⟩) | (go_at_call 146;refine (HLZ.out _).mono ?_;rintro e w' ⟨rfl,rfl⟩));refine (up_any _ y s _ (HV.out.drawn (Drawn.of _ _)) hs32 (by omega)).mono ?_;rintro e W1 ⟨rfl,hrow1,hb1⟩;simp only [World.heap_drewN] at hrow1 hb1;go_wp2_with fail;refine (trim_any _ w.heap.size 0 _ _ (dig (y*2 ^ s)) _ (by omega) (IsSl.of_row hrow1 jl _ jl)).mono ?_;rintro e w' ⟨rfl,hww⟩;have hww2:=hww.symm;clear hww;subst hww2;go_wp2_with fail;have HU1:Mag W1 (.slice a1 (nl x) c1) x:=(HU.out.drawn (Drawn.of _ nd)).mono hb1 jl;refine (up_any _ x s _ HU1 hs32 (by omega)).mono ?_;rintro e W2 ⟨rfl,hrow2,hb2⟩;have HR1:=jj hrow1;have HR2:=jj hrow2;have HB1:=jj hb1;have HB2:=jj hb2;clear hrow1 hrow2 hb1 hb2 HU1;have hmk:=run_make_row' (P:=Tryz.prog) 88 145 (.int .u32 0) 4 Tryz.underlying88 info32 rfl .i64 .i64 (nl x - nl y+1) (by omega) (by omega);have ec:((nl x - nl y+1:Nat):Int)=(nl x:Int) - (nl y:Int)+1:=by omega
 rw [ec] at hmk;clear ec;go_wp2_with fail;have z12:=HR1.out.lt;have z23:=HR2.out.lt;have HM:=jj (World.rowIs_made W2 (.int .u32 0) (nl x - nl y+1) 145);obtain⟨X,hX⟩:∃ X,X=x*2 ^ s:=⟨_,rfl⟩;obtain⟨Y,hY⟩:∃ Y,Y=y*2 ^ s:=⟨_,rfl⟩;rw [<-hX] at HR2;rw [<-hY] at HR1 HST HSN htr;have hY0:0<Y:=by rw [hY];exact Nat.mul_pos hyp hp0
 have hXY:X<Y*4294967296 ^ (nl x - nl y+1):=by rw [hX,hY];exact start_small x y _ _ _ rfl rfl (by omega) hnxy hp0
 have hXl:X<4294967296 ^ (nl x+1):=by
  rw [hX,Nat.pow_succ]
  have:2 ^ s<=4294967296:=by
   have:=Nat.pow_le_pow_right (n:=2) (by omega) (show s<=32 by omega);omega
  exact jm (Nat.mul_lt_mul_of_pos_right (lt_pow_nl x) hp0) (Nat.mul_le_mul_left _ this)
 have hYl:Y<=4294967296 ^ nl y:=by
  have:=lt_pow_nl Y;rw [HSN.out] at this;omega
 have HX:=jj hX;have HY:=jj hY;have HXY:=jj hXY;have HXL:=jj hXl;have HYL:=jj hYl;clear hX hY hXY hXl hYl htr hmk hc hx0
 go_loopw [13] (fun i wr=>∃ (k:Nat) (f qf:Nat->Nat),k<=nl x - nl y+1/\i = .int .i64 ((k:Int) - 1)/\wr.rowIs W1.heap.size 145 (nl x+1) (fun t=>.int .u32 (f t:Nat))/\
   (∀ t,t<nl x+1->f t<4294967296)/\valF f (k+nl y)=X % (Y*4294967296 ^ k)/\wr.rowIs W2.heap.size 145 (nl x - nl y+1) (fun t=>.int .u32 (qf t:Nat))/\
   (∀ t,k<=t->t<nl x - nl y+1->qf t=dig (X / Y) t)/\IsSl wr (some ⟨w.heap.size,0,none⟩) w.heap.size 0 (nl y+1) (nl y) (lc Y)/\Below w.heap.size w wr) (fun i _=>(intOf i+1).toNat)
 case atStart=>
  have b12:Below w.heap.size w W1:=((Drawn.of w nd).below _).trans (HB1.out.mono jl);have b2:Below w.heap.size w W2:=b12.trans (HB2.out.mono (by omega));have r1:W2.rowIs w.heap.size 145 (nl y+1) (lc Y):=row_below HR1.out HB2.out jl;refine⟨nl x - nl y+1,dig X,fun _=>0,Nat.le_refl _,by congr 1;omega,HR2.out.alloc _,fun _ _=>dig_lt _ _,?_,HM.out,fun t h1 h2=>by omega,IsSl.of_row (r1.alloc _) (by omega) _ (by omega),b2.alloc (by omega) _⟩;rw [show nl x - nl y+1+nl y=nl x+1 from by omega,valF_dig,Nat.mod_eq_of_lt HXL.out,Nat.mod_eq_of_lt HXY.out]
 case round=>
  obtain⟨k,f,qf,hk,rfl,hrow,hf,hval,hq,hqf,hv2,hb⟩:=hrel;have HF:=jj hf;have HVAL:=jj hval;have HQF:=jj hqf;have HV2:=jj hv2;clear hf hval hqf hv2;by_cases h0:0<k
  ·have hsl:=slice_win W1.heap.size (nl x+1) (k - 1) (nl y) (by omega);rw [show ((k - 1:Nat):Int)=(k:Int) - 1 from by omega] at hsl
   have hwin:valF (win f (k - 1)) (nl y+1)<Y*4294967296:=by
    refine win_lt f (k - 1) (nl y) X Y ?_ hY0;rw [show k - 1+(nl y+1)=k+nl y from by omega,show k - 1+1=k from by omega];exact HVAL.out
   have HWIN:=jj hwin;clear hwin;go_wp2_with (go_at_call 148;refine (digit_any W1.heap.size (nl x+1) (k - 1) (nl y) _ f _ w.heap.size 0 _ Y _ HV2.out HSN.out hny (by omega) hrow HF.out (by omega) (by omega) (by omega) HST.out HWIN.out).mono ?_;rintro e w' ⟨f',rfl,hrow',hsame',hf',hval',hgr'⟩;have hq':=row_grown hq hgr' (by omega);have hcq:=hq'.cell (i:=k - 1) (by omega);have hfq:=hq'.frozen (k - 1);have HS:=jj hsame';have HF2:=jj hf';have HV3:=jj hval';clear hsame' hf' hval');go_roundw
   case rel=>
    have hqs:=quo_step f f' (k - 1) (nl y) X Y (fun i hi=>HF.out i (by omega)) (fun i hi=>HF2.out _ (by omega)) hY0 HYL.out
     (by rw [show k - 1+(nl y+1)=k+nl y from by omega,show k - 1+1=k from by omega];exact HVAL.out) (fun t ht=>HS.out t (by omega)) HV3.out
    refine⟨k - 1,f',upd qf (k - 1) (valF (win f (k - 1)) (nl y+1) / Y),by omega,by congr 1;omega,hrow'.setOther (by show W1.heap.size≠W2.heap.size;omega) _,HF2.out,hqs.1,row_upd hq' _ _ rfl,?_,
     (HV2.out.grown hgr' (by omega)).grown (grown_set (World.grownBy.refl _ _) _ _) (by omega),(hb.grown hgr' hb.size (fun j hj=>by cases hj;omega)).setCell (by show w.heap.size<=W2.heap.size;omega) _⟩
    intro t h1 h2;unfold upd;split
    ·rename_i e;rw [e];exact hqs.2
    ·exact HQF.out t (by omega) h2
   case measure=>simp [intOf];omega
  ·obtain rfl:k=0:=by omega
   have hq1:∀ t,t<nl x - nl y+1->qf t=dig (X / Y) t:=fun t ht=>HQF.out t (Nat.zero_le _) ht
   have hXY2:X / Y=x / y:=by rw [HX.out,HY.out];exact Nat.mul_div_mul_right _ _ hp0
   have hm2:X % Y / 2 ^ s=x % y:=by rw [HX.out,HY.out,Nat.mul_mod_mul_right,Nat.mul_div_cancel _ hp0]
   have hr1:valF f (nl y)=X % Y:=by have:=HVAL.out;simpa using this
   have hql:X / Y<4294967296 ^ (nl x - nl y+1):=by rw [Nat.div_lt_iff_lt_mul hY0,Nat.mul_comm];exact HXY.out
   have hqv:valF qf (nl x - nl y+1)=x / y:=by rw [valF_congr hq1,valF_dig,Nat.mod_eq_of_lt hql,hXY2]
   have hql2:∀ t,t<nl x - nl y+1->qf t<4294967296:=fun t ht=>by rw [hq1 t ht];exact dig_lt _ _
   have m1:=trim_mag hql2 (IsSl.of_row hq jl (nl x - nl y+1) jl);have m2:=trim_mag (n:=nl y) (fun t ht=>HF.out t (by omega)) (IsSl.of_row hrow (by omega) (nl x+1) (by omega));rw [hqv] at m1;rw [hr1] at m2
   have hnr:nl (X % Y)<=549755813889:=by
    have:=nl_mono (Nat.le_of_lt (Nat.mod_lt X hY0));rw [HSN.out] at this;omega
   have M1:=jj m1;have M2:=jj m2;have HM2:=jj hm2;clear hq1 hXY2 hm2 hr1 hql hqv hql2 m1 m2;go_wp2
   go_region_with (first | (go_at_call 125;(with_reducible refine (trim_any (some ⟨W2.heap.size,0,none⟩) W2.heap.size 0 (nl x - nl y+1) (nl x - nl y+1) qf _ (by omega) (IsSl.of_row hq jl _ jl).drew).mono ?_);rintro e w' ⟨rfl,hww⟩;have hww2:=hww.symm;clear hww;subst hww2) | (go_at_call 125;(with_reducible refine (trim_any (some ⟨W1.heap.size,0,none⟩) W1.heap.size 0 (nl x+1) (nl y) f _ (by omega) (IsSl.of_row hrow (by omega) _ (by omega)).drew).mono ?_);rintro e w' ⟨rfl,hww⟩;have hww2:=hww.symm;clear hww;subst hww2) | (go_at_call 149;refine (down_any _ (X % Y) s _ M2.out.drew hs32 (by omega)).mono ?_;rintro e w5 ⟨r5,rfl,hr5,hb5⟩))
   all_goals
    go_wp2;go_ret2;refine⟨.slice (some ⟨W2.heap.size,0,none⟩) (trimN qf (nl x - nl y+1)) (nl x - nl y+1),r5,rfl,M1.out.drew.mono hb5 jl,?_,hb.drew.trans (hb5.mono hb.size)⟩;rw [<-HM2.out];exact hr5
theorem part_any (u v:Value) (x y:Nat) (w:World) (hu:Mag w u x) (hv:Mag w v y) (hy:0<y) (bx:nl x<=549755813888) (b_y:nl y<=549755813888) :
  Calls Tryz.prog 134 #[u,v] w fun e w'=>∃ q r,e = .returned (.tuple #[q,r])/\Mag w' q (x / y)/\Mag w' r (x % y)/\Below w.heap.size w w':=by
 rcases Nat.lt_or_ge x y with h | h
 ·exact part_less u v x y w hu hv h (by omega) (by omega)
 ·have h1:=(nl_pos y).2 hy;by_cases h2:nl y=1
  ·exact part_one u v x y w hu hv h h2 (by omega)
  ·exact part_many u v x y w hu hv h (by omega) bx
theorem made_any (u:Value) (s:Bool) (x:Nat) (w:World) (hu:Mag w u x) :
  Calls Tryz.prog 106 #[.bool s,u] w fun e w'=>e = .returned (.agg #[.bool (s && decide (0<x)),u])/\Mag w' u x/\Below w.heap.size w w':=by
 have HU:=jj hu;obtain⟨a1,b1,o1,c1,rfl,i1⟩:=hu;have HM:Hid (∀ v0 v1,Mag (w.alloc (Obj.cells #[v0,v1] 90)) (.slice a1 (nl x) c1) x):=fun v0 v1=>HU.out.alloc _
 have HB:=jj (fun (v0 v1:Value)=>boxes1 w (Obj.cells #[v0,v1] 90));have hp:=nl_pos x;cases s with
 | false=>
  go_enter Tryz.func106,Tryz.ntmps106;go_wp2;refine bodyPost_ret (v:=.agg #[.bool false,.slice a1 (nl x) c1]) (by simp [results,Tryz.results106,go_sem]) rfl ?_;exact⟨by simp,HM.out _ _,HB.out _ _⟩
 | true=>
  by_cases h:0<x
  ·have h2:0<nl x:=hp.2 h;clear hp;go_enter Tryz.func106,Tryz.ntmps106;go_wp2;refine bodyPost_ret (v:=.agg #[.bool true,.slice a1 (nl x) c1]) (by simp [results,Tryz.results106,go_sem]) rfl ?_;exact⟨by simp [h],HM.out _ _,HB.out _ _⟩
  ·have h2:¬ 0<nl x:=fun q=>h (hp.1 q)
   clear hp;go_enter Tryz.func106,Tryz.ntmps106;go_wp2;refine bodyPost_ret (v:=.agg #[.bool false,.slice a1 (nl x) c1]) (by simp [results,Tryz.results106,go_sem]) rfl ?_;exact⟨by simp [h],HM.out _ _,HB.out _ _⟩
attribute [local go_sem ↓] Go.wp_at_zero Go.wp_at_succ
theorem add_same (u v:Value) (s t:Bool) (x y:Nat) (w:World) (hu:Mag w u x) (hv:Mag w v y)  (bx:nl x<=549755813888) (b_y:nl y<=549755813888) :
  Calls Tryz.prog 98 #[.agg #[.bool s,u],.agg #[.bool s,v]] w fun e w'=>∃ r,e = .returned (.agg #[.bool (s && decide (0<x+y)),r])/\Mag w' r (x+y)/\Below w.heap.size w w':=by
 have HU:=jj hu;have HV:=jj hv;obtain⟨a1,b1,o1,c1,rfl,i1⟩:=hu;obtain⟨a2,b2,o2,c2,rfl,i2⟩:=hv;have HB:Hid (Below w.heap.size w (((w.alloc (Obj.cells #[Value.bool s,Value.slice a1 (nl x) c1] 90)).alloc (Obj.cells #[Value.bool s,Value.slice a2 (nl y) c2] 90)).alloc (Obj.cells #[.bool false,.slice none 0 0] 90))):=boxes3 w _ _ _;go_enter Tryz.func98,Tryz.ntmps98;go_wp2
 go_region_held3 (fun w'=>w'.cell? ⟨w.heap.size,0,none⟩=some (.bool s)/\w'.cell? ⟨w.heap.size,1,none⟩=some (.slice a1 (nl x) c1)/\w'.cell? ⟨w.heap.size+1,1,none⟩=some (.slice a2 (nl y) c2)) (go_keep)
  (first
   | (go_at_call 126;refine (plus_any _ _ x y _ ((HU.out.mono HB.out jl).drew) ((HV.out.mono HB.out jl).drew) (by omega) (by omega)).mono ?_;rintro e w1 ⟨r,rfl,⟨a3,b3,o3,c3,rfl,i3⟩,hb⟩;obtain⟨q1,q2,q3,q4,q5,q6,hz1,HB1⟩:=kept3 (w:=w) hb (by simp) (HB.out.drew))
   | (go_at_call 106;refine (made_any _ _ (x+y) _ ⟨a3,b3,o3,c3,rfl,i3⟩).mono ?_;rintro e w2 ⟨rfl,hm2,hb2⟩;obtain⟨p1,p2,p3,p4,p5,p6,hz2,HB2⟩:=kept3 (w:=w) hb2 hz1 HB1.out))
 go_wp2;refine bodyPost_ret (v:=.agg #[.bool (s && decide (0<x+y)),.slice a3 (nl (x+y)) c3]) (by simp [results,Tryz.results98,go_sem,q1,q2,q3,q4,q5,q6,p1,p2,p3,p4,p5,p6]) rfl ?_;exact⟨_,rfl,hm2.store2 _ _ (v0:=.bool false) (v1:=.slice none 0 0) (by rw [p3,q3];simp [go_sem]) (by rw [p3,q3];simp [go_sem]) (noInt_bool _) (noInt_slice _ _ _),(HB2.out.setCell (by simp;omega) _).setCell (by simp;omega) _⟩
theorem add_tf_ge (u v:Value) (s t:Bool) (x y:Nat) (w:World) (hu:Mag w u x) (hv:Mag w v y) (hle:y<=x) (bx:nl x<=549755813888) (b_y:nl y<=549755813888) :
  Calls Tryz.prog 98 #[.agg #[.bool true,u],.agg #[.bool false,v]] w fun e w'=>∃ r,e = .returned (.agg #[.bool (true && decide (0<x - y)),r])/\Mag w' r (x - y)/\Below w.heap.size w w':=by
 have HU:=jj hu;have HV:=jj hv;obtain⟨a1,b1,o1,c1,rfl,i1⟩:=hu;obtain⟨a2,b2,o2,c2,rfl,i2⟩:=hv;have HB:Hid (Below w.heap.size w (((w.alloc (Obj.cells #[Value.bool true,Value.slice a1 (nl x) c1] 90)).alloc (Obj.cells #[Value.bool false,Value.slice a2 (nl y) c2] 90)).alloc (Obj.cells #[.bool false,.slice none 0 0] 90))):=boxes3 w _ _ _;have HLE:=jj hle;have HCM:=jj (fun W=>compare_any (.slice a1 (nl x) c1) (.slice a2 (nl y) c2) x y W);have hcm:0<=cmpN x y:=by unfold cmpN;rw [if_neg (by omega)];split <;> omega
 clear hle;go_enter Tryz.func98,Tryz.ntmps98;go_wp2_with (go_at_call 105;refine (HCM.out _ (HU.out.mono HB.out jl) (HV.out.mono HB.out jl) (by omega) (by omega)).mono ?_;rintro e w' ⟨rfl,nd,rfl⟩)
 go_region_held3 (fun w'=>w'.cell? ⟨w.heap.size,0,none⟩=some (.bool true)/\w'.cell? ⟨w.heap.size,1,none⟩=some (.slice a1 (nl x) c1)/\w'.cell? ⟨w.heap.size+1,1,none⟩=some (.slice a2 (nl y) c2)) (go_keep)
  (first
   | (go_at_call 127;refine (minus_any _ _ x y _ (((HU.out.mono HB.out jl).drawn (Drawn.of _ nd)).drew) (((HV.out.mono HB.out jl).drawn (Drawn.of _ nd)).drew) HLE.out (by omega)).mono ?_;rintro e w1 ⟨r,rfl,⟨a3,b3,o3,c3,rfl,i3⟩,hb⟩;obtain⟨q1,q2,q3,q4,q5,q6,hz1,HB1⟩:=kept3 (w:=w) hb (by simp) ((below_drawN HB.out nd).drew))
   | (go_at_call 106;refine (made_any _ _ (x - y) _ ⟨a3,b3,o3,c3,rfl,i3⟩).mono ?_;rintro e w2 ⟨rfl,hm2,hb2⟩;obtain⟨p1,p2,p3,p4,p5,p6,hz2,HB2⟩:=kept3 (w:=w) hb2 hz1 HB1.out))
 go_wp2;refine bodyPost_ret (v:=.agg #[.bool (true && decide (0<x - y)),.slice a3 (nl (x - y)) c3]) (by simp [results,Tryz.results98,go_sem,q1,q2,q3,q4,q5,q6,p1,p2,p3,p4,p5,p6]) rfl ?_;exact⟨_,rfl,hm2.store2 _ _ (v0:=.bool false) (v1:=.slice none 0 0) (by rw [p3,q3];simp [go_sem]) (by rw [p3,q3];simp [go_sem]) (noInt_bool _) (noInt_slice _ _ _),(HB2.out.setCell (by simp;omega) _).setCell (by simp;omega) _⟩
theorem add_tf_lt (u v:Value) (s t:Bool) (x y:Nat) (w:World) (hu:Mag w u x) (hv:Mag w v y) (hle:x<y) (bx:nl x<=549755813888) (b_y:nl y<=549755813888) :
  Calls Tryz.prog 98 #[.agg #[.bool true,u],.agg #[.bool false,v]] w fun e w'=>∃ r,e = .returned (.agg #[.bool (false && decide (0<y - x)),r])/\Mag w' r (y - x)/\Below w.heap.size w w':=by
 have HU:=jj hu;have HV:=jj hv;obtain⟨a1,b1,o1,c1,rfl,i1⟩:=hu;obtain⟨a2,b2,o2,c2,rfl,i2⟩:=hv;have HB:Hid (Below w.heap.size w (((w.alloc (Obj.cells #[Value.bool true,Value.slice a1 (nl x) c1] 90)).alloc (Obj.cells #[Value.bool false,Value.slice a2 (nl y) c2] 90)).alloc (Obj.cells #[.bool false,.slice none 0 0] 90))):=boxes3 w _ _ _;have HLE:=jj hle;have HCM:=jj (fun W=>compare_any (.slice a1 (nl x) c1) (.slice a2 (nl y) c2) x y W);have hcm:cmpN x y<0:=by unfold cmpN;rw [if_pos (by omega)];omega
 clear hle;go_enter Tryz.func98,Tryz.ntmps98;go_wp2_with (go_at_call 105;refine (HCM.out _ (HU.out.mono HB.out jl) (HV.out.mono HB.out jl) (by omega) (by omega)).mono ?_;rintro e w' ⟨rfl,nd,rfl⟩)
 go_region_held3 (fun w'=>w'.cell? ⟨w.heap.size+1,0,none⟩=some (.bool false)/\w'.cell? ⟨w.heap.size+1,1,none⟩=some (.slice a2 (nl y) c2)/\w'.cell? ⟨w.heap.size,1,none⟩=some (.slice a1 (nl x) c1)) (go_keep)
  (first
   | (go_at_call 127;refine (minus_any _ _ y x _ (((HV.out.mono HB.out jl).drawn (Drawn.of _ nd)).drew) (((HU.out.mono HB.out jl).drawn (Drawn.of _ nd)).drew) (Nat.le_of_lt HLE.out) (by omega)).mono ?_;rintro e w1 ⟨r,rfl,⟨a3,b3,o3,c3,rfl,i3⟩,hb⟩;obtain⟨q1,q2,q3,q4,q5,q6,hz1,HB1⟩:=kept3 (w:=w) hb (by simp) ((below_drawN HB.out nd).drew))
   | (go_at_call 106;refine (made_any _ _ (y - x) _ ⟨a3,b3,o3,c3,rfl,i3⟩).mono ?_;rintro e w2 ⟨rfl,hm2,hb2⟩;obtain⟨p1,p2,p3,p4,p5,p6,hz2,HB2⟩:=kept3 (w:=w) hb2 hz1 HB1.out))
 go_wp2;refine bodyPost_ret (v:=.agg #[.bool (false && decide (0<y - x)),.slice a3 (nl (y - x)) c3]) (by simp [results,Tryz.results98,go_sem,q1,q2,q3,q4,q5,q6,p1,p2,p3,p4,p5,p6]) rfl ?_;exact⟨_,rfl,hm2.store2 _ _ (v0:=.bool false) (v1:=.slice none 0 0) (by rw [p3,q3];simp [go_sem]) (by rw [p3,q3];simp [go_sem]) (noInt_bool _) (noInt_slice _ _ _),(HB2.out.setCell (by simp;omega) _).setCell (by simp;omega) _⟩
theorem add_ft_ge (u v:Value) (s t:Bool) (x y:Nat) (w:World) (hu:Mag w u x) (hv:Mag w v y) (hle:y<=x) (bx:nl x<=549755813888) (b_y:nl y<=549755813888) :
  Calls Tryz.prog 98 #[.agg #[.bool false,u],.agg #[.bool true,v]] w fun e w'=>∃ r,e = .returned (.agg #[.bool (false && decide (0<x - y)),r])/\Mag w' r (x - y)/\Below w.heap.size w w':=by
 have HU:=jj hu;have HV:=jj hv;obtain⟨a1,b1,o1,c1,rfl,i1⟩:=hu;obtain⟨a2,b2,o2,c2,rfl,i2⟩:=hv;have HB:Hid (Below w.heap.size w (((w.alloc (Obj.cells #[Value.bool false,Value.slice a1 (nl x) c1] 90)).alloc (Obj.cells #[Value.bool true,Value.slice a2 (nl y) c2] 90)).alloc (Obj.cells #[.bool false,.slice none 0 0] 90))):=boxes3 w _ _ _;have HLE:=jj hle;have HCM:=jj (fun W=>compare_any (.slice a1 (nl x) c1) (.slice a2 (nl y) c2) x y W);have hcm:0<=cmpN x y:=by unfold cmpN;rw [if_neg (by omega)];split <;> omega
 clear hle;go_enter Tryz.func98,Tryz.ntmps98;go_wp2_with (go_at_call 105;refine (HCM.out _ (HU.out.mono HB.out jl) (HV.out.mono HB.out jl) (by omega) (by omega)).mono ?_;rintro e w' ⟨rfl,nd,rfl⟩)
 go_region_held3 (fun w'=>w'.cell? ⟨w.heap.size,0,none⟩=some (.bool false)/\w'.cell? ⟨w.heap.size,1,none⟩=some (.slice a1 (nl x) c1)/\w'.cell? ⟨w.heap.size+1,1,none⟩=some (.slice a2 (nl y) c2)) (go_keep)
  (first
   | (go_at_call 127;refine (minus_any _ _ x y _ (((HU.out.mono HB.out jl).drawn (Drawn.of _ nd)).drew) (((HV.out.mono HB.out jl).drawn (Drawn.of _ nd)).drew) HLE.out (by omega)).mono ?_;rintro e w1 ⟨r,rfl,⟨a3,b3,o3,c3,rfl,i3⟩,hb⟩;obtain⟨q1,q2,q3,q4,q5,q6,hz1,HB1⟩:=kept3 (w:=w) hb (by simp) ((below_drawN HB.out nd).drew))
   | (go_at_call 106;refine (made_any _ _ (x - y) _ ⟨a3,b3,o3,c3,rfl,i3⟩).mono ?_;rintro e w2 ⟨rfl,hm2,hb2⟩;obtain⟨p1,p2,p3,p4,p5,p6,hz2,HB2⟩:=kept3 (w:=w) hb2 hz1 HB1.out))
 go_wp2;refine bodyPost_ret (v:=.agg #[.bool (false && decide (0<x - y)),.slice a3 (nl (x - y)) c3]) (by simp [results,Tryz.results98,go_sem,q1,q2,q3,q4,q5,q6,p1,p2,p3,p4,p5,p6]) rfl ?_;exact⟨_,rfl,hm2.store2 _ _ (v0:=.bool false) (v1:=.slice none 0 0) (by rw [p3,q3];simp [go_sem]) (by rw [p3,q3];simp [go_sem]) (noInt_bool _) (noInt_slice _ _ _),(HB2.out.setCell (by simp;omega) _).setCell (by simp;omega) _⟩
theorem add_ft_lt (u v:Value) (s t:Bool) (x y:Nat) (w:World) (hu:Mag w u x) (hv:Mag w v y) (hle:x<y) (bx:nl x<=549755813888) (b_y:nl y<=549755813888) :
  Calls Tryz.prog 98 #[.agg #[.bool false,u],.agg #[.bool true,v]] w fun e w'=>∃ r,e = .returned (.agg #[.bool (true && decide (0<y - x)),r])/\Mag w' r (y - x)/\Below w.heap.size w w':=by
 have HU:=jj hu;have HV:=jj hv;obtain⟨a1,b1,o1,c1,rfl,i1⟩:=hu;obtain⟨a2,b2,o2,c2,rfl,i2⟩:=hv;have HB:Hid (Below w.heap.size w (((w.alloc (Obj.cells #[Value.bool false,Value.slice a1 (nl x) c1] 90)).alloc (Obj.cells #[Value.bool true,Value.slice a2 (nl y) c2] 90)).alloc (Obj.cells #[.bool false,.slice none 0 0] 90))):=boxes3 w _ _ _;have HLE:=jj hle;have HCM:=jj (fun W=>compare_any (.slice a1 (nl x) c1) (.slice a2 (nl y) c2) x y W);have hcm:cmpN x y<0:=by unfold cmpN;rw [if_pos (by omega)];omega
 clear hle;go_enter Tryz.func98,Tryz.ntmps98;go_wp2_with (go_at_call 105;refine (HCM.out _ (HU.out.mono HB.out jl) (HV.out.mono HB.out jl) (by omega) (by omega)).mono ?_;rintro e w' ⟨rfl,nd,rfl⟩)
 go_region_held3 (fun w'=>w'.cell? ⟨w.heap.size+1,0,none⟩=some (.bool true)/\w'.cell? ⟨w.heap.size+1,1,none⟩=some (.slice a2 (nl y) c2)/\w'.cell? ⟨w.heap.size,1,none⟩=some (.slice a1 (nl x) c1)) (go_keep)
  (first
   | (go_at_call 127;refine (minus_any _ _ y x _ (((HV.out.mono HB.out jl).drawn (Drawn.of _ nd)).drew) (((HU.out.mono HB.out jl).drawn (Drawn.of _ nd)).drew) (Nat.le_of_lt HLE.out) (by omega)).mono ?_;rintro e w1 ⟨r,rfl,⟨a3,b3,o3,c3,rfl,i3⟩,hb⟩;obtain⟨q1,q2,q3,q4,q5,q6,hz1,HB1⟩:=kept3 (w:=w) hb (by simp) ((below_drawN HB.out nd).drew))
   | (go_at_call 106;refine (made_any _ _ (y - x) _ ⟨a3,b3,o3,c3,rfl,i3⟩).mono ?_;rintro e w2 ⟨rfl,hm2,hb2⟩;obtain⟨p1,p2,p3,p4,p5,p6,hz2,HB2⟩:=kept3 (w:=w) hb2 hz1 HB1.out))
 go_wp2;refine bodyPost_ret (v:=.agg #[.bool (true && decide (0<y - x)),.slice a3 (nl (y - x)) c3]) (by simp [results,Tryz.results98,go_sem,q1,q2,q3,q4,q5,q6,p1,p2,p3,p4,p5,p6]) rfl ?_;exact⟨_,rfl,hm2.store2 _ _ (v0:=.bool false) (v1:=.slice none 0 0) (by rw [p3,q3];simp [go_sem]) (by rw [p3,q3];simp [go_sem]) (noInt_bool _) (noInt_slice _ _ _),(HB2.out.setCell (by simp;omega) _).setCell (by simp;omega) _⟩
theorem Dg.setCell {w:World} {v:Value} {x:Nat} (h:Dg w v x) {p:Addr} {v0:Value} (u:Value) (hp:w.cell? p=some v0) (hne:NoInt v0):Dg (w.setCell p u) v x:=by
 obtain⟨a,b,o,c,rfl,hs⟩:=h;exact⟨a,b,o,c,rfl,hs.setCell u hp (fun i _ e=>hne _ _ e.symm)⟩
theorem Dg.store2 {w:World} {v:Value} {x b:Nat} (h:Dg w v x) (u0 u1:Value) {v0 v1:Value} (h0:w.cell? ⟨b,0,none⟩=some v0) (h1:w.cell? ⟨b,1,none⟩=some v1) (n0:NoInt v0) (n1:NoInt v1) :
  Dg ((w.setCell ⟨b,0,none⟩ u0).setCell ⟨b,1,none⟩ u1) v x:=
 (h.setCell u0 h0 n0).setCell u1 (by rw [cell?_setCell_ne' _ _ _ _ (by intro e;cases e) rfl rfl];exact h1) n1
theorem Dg.drew {w:World} {v:Value} {x:Nat} (h:Dg w v x):Dg w.drew v x:=h.drawn (Drawn.of w 1)
theorem lean_val (u:Value) (s:Bool) (n:Nat) (f:Nat->Nat) (x:Nat) (w:World) (hu:Raw w u n f) (hf:∀ i,i<n->f i<10000) (hx:valD f n=x) (hn:n<=1099511627776) :
  Calls Tryz.prog 78 #[.agg #[.bool s,u]] w fun e w'=>∃ a c,e = .returned (.agg #[.bool (s && decide (0<x)),.slice a (nd x) c])/\Dg w' (.slice a (nd x) c) x/\Below w.heap.size w w':=by
 subst hx;refine (lean_any u s n f w hu hf hn).mono ?_;rintro e w' ⟨u',rfl,⟨a,b,o,c,rfl,hs⟩,hb⟩;exact⟨a,c,rfl,⟨a,b,o,c,rfl,hs⟩,hb⟩
theorem zadd_same (u v:Value) (s:Bool) (x y:Nat) (w:World) (hu:Dg w u x) (hv:Dg w v y) (bx:nd x<=549755813888) (b_y:nd y<=549755813888) :
  Calls Tryz.prog 47 #[.agg #[.bool s,u],.agg #[.bool s,v]] w fun e w'=>∃ r,e = .returned (.agg #[.bool (s && decide (0<x+y)),r])/\Dg w' r (x+y)/\Below w.heap.size w w':=by
 have HU:=jj hu;have HV:=jj hv;obtain⟨a1,b1,o1,c1,rfl,i1⟩:=hu;obtain⟨a2,b2,o2,c2,rfl,i2⟩:=hv;have HB:Hid (Below w.heap.size w (((w.alloc (Obj.cells #[Value.bool s,Value.slice a1 (nd x) c1] 38)).alloc (Obj.cells #[Value.bool s,Value.slice a2 (nd y) c2] 38)).alloc (Obj.cells #[.bool false,.slice none 0 0] 38))):=boxes3 w _ _ _;have hss:(s == s)=true:=by simp
 clear i1 i2;go_enter Tryz.func47,Tryz.ntmps47;go_wp2
 go_region_held3 (fun w'=>w'.cell? ⟨w.heap.size,0,none⟩=some (.bool s)/\w'.cell? ⟨w.heap.size,1,none⟩=some (.slice a1 (nd x) c1)/\w'.cell? ⟨w.heap.size+1,1,none⟩=some (.slice a2 (nd y) c2)) (go_keep)
  (first
   | (go_at_call 79;refine (bplus_any _ _ x y _ ((HU.out.mono HB.out jl).drew) ((HV.out.mono HB.out jl).drew) (by omega) (by omega)).mono ?_;rintro e w1 ⟨r,n1,f1,rfl,⟨a3,b3,o3,c3,rfl,i3⟩,hf1,hval,hn1,hb⟩;have HF1:=jj hf1;have HVL:=jj hval;have HI3:Hid (Raw w1 (.slice a3 n1 c3) n1 f1):=jj ⟨a3,b3,o3,c3,rfl,i3⟩;have hn2:n1<=1099511627776:=(by omega);obtain⟨q1,q2,q3,q4,q5,q6,hz1,HB1⟩:=kept3 (w:=w) hb (by simp) (HB.out.drew);clear hf1 hval i3 hn1)
   | (go_at_call 78;refine (lean_val _ _ n1 f1 (x+y) _ HI3.out HF1.out HVL.out hn2).mono ?_;rintro e w2 ⟨a4,c4,rfl,hm2,hb2⟩;have HM2:=jj hm2;obtain⟨p1,p2,p3,p4,p5,p6,hz2,HB2⟩:=kept3 (w:=w) hb2 hz1 HB1.out;clear hm2))
 go_wp2;refine bodyPost_ret (v:=.agg #[.bool (s && decide (0<x+y)),.slice a4 (nd (x+y)) c4]) (by simp [results,Tryz.results47,go_sem,q1,q2,q3,q4,q5,q6,p1,p2,p3,p4,p5,p6]) rfl ?_;exact⟨_,rfl,HM2.out.store2 _ _ (v0:=.bool false) (v1:=.slice none 0 0) (by rw [p3,q3];simp [go_sem]) (by rw [p3,q3];simp [go_sem]) (noInt_bool _) (noInt_slice _ _ _),(HB2.out.setCell (by simp;omega) _).setCell (by simp;omega) _⟩
theorem zadd_tf_ge (u v:Value) (x y:Nat) (w:World) (hu:Dg w u x) (hv:Dg w v y) (hle:y<=x) (bx:nd x<=549755813888) (b_y:nd y<=549755813888) :
  Calls Tryz.prog 47 #[.agg #[.bool true,u],.agg #[.bool false,v]] w fun e w'=>∃ r,e = .returned (.agg #[.bool (true && decide (0<x - y)),r])/\Dg w' r (x - y)/\Below w.heap.size w w':=by
 have HU:=jj hu;have HV:=jj hv;obtain⟨a1,b1,o1,c1,rfl,i1⟩:=hu;obtain⟨a2,b2,o2,c2,rfl,i2⟩:=hv;have HB:Hid (Below w.heap.size w (((w.alloc (Obj.cells #[Value.bool true,Value.slice a1 (nd x) c1] 38)).alloc (Obj.cells #[Value.bool false,Value.slice a2 (nd y) c2] 38)).alloc (Obj.cells #[.bool false,.slice none 0 0] 38))):=boxes3 w _ _ _;have HLE:=jj hle;have HCM:=jj (fun W=>sizes_any (.slice a1 (nd x) c1) (.slice a2 (nd y) c2) x y W);have hcm:0<=cmpN x y:=by unfold cmpN;rw [if_neg (by omega)];split <;> omega
 clear hle i1 i2;go_enter Tryz.func47,Tryz.ntmps47;go_wp2_with (go_at_call 80;refine (HCM.out _ (HU.out.mono HB.out jl) (HV.out.mono HB.out jl) (by omega) (by omega)).mono ?_;rintro e w' ⟨rfl,hd⟩;obtain⟨nq,rfl⟩:=hd)
 go_region_held3 (fun w'=>w'.cell? ⟨w.heap.size,0,none⟩=some (.bool true)/\w'.cell? ⟨w.heap.size,1,none⟩=some (.slice a1 (nd x) c1)/\w'.cell? ⟨w.heap.size+1,1,none⟩=some (.slice a2 (nd y) c2)) (go_keep)
  (first
   | (go_at_call 81;refine (bless_any _ _ x y _ (((HU.out.mono HB.out jl).drawn (Drawn.of _ nq)).drew) (((HV.out.mono HB.out jl).drawn (Drawn.of _ nq)).drew) HLE.out (by omega)).mono ?_;rintro e w1 ⟨r,f1,rfl,⟨a3,b3,o3,c3,rfl,i3⟩,hf1,hval,hb⟩;have HF1:=jj hf1;have HVL:=jj hval;have HI3:Hid (Raw w1 (.slice a3 (nd x) c3) (nd x) f1):=jj ⟨a3,b3,o3,c3,rfl,i3⟩;have hn2:nd x<=1099511627776:=(by omega);obtain⟨q1,q2,q3,q4,q5,q6,hz1,HB1⟩:=kept3 (w:=w) hb (by simp) ((below_drawN HB.out nq).drew);clear hf1 hval i3)
   | (go_at_call 78;refine (lean_val _ _ (nd x) f1 (x - y) _ HI3.out HF1.out HVL.out hn2).mono ?_;rintro e w2 ⟨a4,c4,rfl,hm2,hb2⟩;have HM2:=jj hm2;obtain⟨p1,p2,p3,p4,p5,p6,hz2,HB2⟩:=kept3 (w:=w) hb2 hz1 HB1.out;clear hm2))
 go_wp2;refine bodyPost_ret (v:=.agg #[.bool (true && decide (0<x - y)),.slice a4 (nd (x - y)) c4]) (by simp [results,Tryz.results47,go_sem,q1,q2,q3,q4,q5,q6,p1,p2,p3,p4,p5,p6]) rfl ?_;exact⟨_,rfl,HM2.out.store2 _ _ (v0:=.bool false) (v1:=.slice none 0 0) (by rw [p3,q3];simp [go_sem]) (by rw [p3,q3];simp [go_sem]) (noInt_bool _) (noInt_slice _ _ _),(HB2.out.setCell (by simp;omega) _).setCell (by simp;omega) _⟩
theorem zadd_tf_lt (u v:Value) (x y:Nat) (w:World) (hu:Dg w u x) (hv:Dg w v y) (hle:x<y) (bx:nd x<=549755813888) (b_y:nd y<=549755813888) :
  Calls Tryz.prog 47 #[.agg #[.bool true,u],.agg #[.bool false,v]] w fun e w'=>∃ r,e = .returned (.agg #[.bool (false && decide (0<y - x)),r])/\Dg w' r (y - x)/\Below w.heap.size w w':=by
 have HU:=jj hu;have HV:=jj hv;obtain⟨a1,b1,o1,c1,rfl,i1⟩:=hu;obtain⟨a2,b2,o2,c2,rfl,i2⟩:=hv;have HB:Hid (Below w.heap.size w (((w.alloc (Obj.cells #[Value.bool true,Value.slice a1 (nd x) c1] 38)).alloc (Obj.cells #[Value.bool false,Value.slice a2 (nd y) c2] 38)).alloc (Obj.cells #[.bool false,.slice none 0 0] 38))):=boxes3 w _ _ _;have HLE:=jj hle;have HCM:=jj (fun W=>sizes_any (.slice a1 (nd x) c1) (.slice a2 (nd y) c2) x y W);have hcm:cmpN x y<0:=by unfold cmpN;rw [if_pos (by omega)];omega
 clear hle i1 i2;go_enter Tryz.func47,Tryz.ntmps47;go_wp2_with (go_at_call 80;refine (HCM.out _ (HU.out.mono HB.out jl) (HV.out.mono HB.out jl) (by omega) (by omega)).mono ?_;rintro e w' ⟨rfl,hd⟩;obtain⟨nq,rfl⟩:=hd)
 go_region_held3 (fun w'=>w'.cell? ⟨w.heap.size+1,0,none⟩=some (.bool false)/\w'.cell? ⟨w.heap.size+1,1,none⟩=some (.slice a2 (nd y) c2)/\w'.cell? ⟨w.heap.size,1,none⟩=some (.slice a1 (nd x) c1)) (go_keep)
  (first
   | (go_at_call 81;refine (bless_any _ _ y x _ (((HV.out.mono HB.out jl).drawn (Drawn.of _ nq)).drew) (((HU.out.mono HB.out jl).drawn (Drawn.of _ nq)).drew) (Nat.le_of_lt HLE.out) (by omega)).mono ?_;rintro e w1 ⟨r,f1,rfl,⟨a3,b3,o3,c3,rfl,i3⟩,hf1,hval,hb⟩;have HF1:=jj hf1;have HVL:=jj hval;have HI3:Hid (Raw w1 (.slice a3 (nd y) c3) (nd y) f1):=jj ⟨a3,b3,o3,c3,rfl,i3⟩;have hn2:nd y<=1099511627776:=(by omega);obtain⟨q1,q2,q3,q4,q5,q6,hz1,HB1⟩:=kept3 (w:=w) hb (by simp) ((below_drawN HB.out nq).drew);clear hf1 hval i3)
   | (go_at_call 78;refine (lean_val _ _ (nd y) f1 (y - x) _ HI3.out HF1.out HVL.out hn2).mono ?_;rintro e w2 ⟨a4,c4,rfl,hm2,hb2⟩;have HM2:=jj hm2;obtain⟨p1,p2,p3,p4,p5,p6,hz2,HB2⟩:=kept3 (w:=w) hb2 hz1 HB1.out;clear hm2))
 go_wp2;refine bodyPost_ret (v:=.agg #[.bool (false && decide (0<y - x)),.slice a4 (nd (y - x)) c4]) (by simp [results,Tryz.results47,go_sem,q1,q2,q3,q4,q5,q6,p1,p2,p3,p4,p5,p6]) rfl ?_;exact⟨_,rfl,HM2.out.store2 _ _ (v0:=.bool false) (v1:=.slice none 0 0) (by rw [p3,q3];simp [go_sem]) (by rw [p3,q3];simp [go_sem]) (noInt_bool _) (noInt_slice _ _ _),(HB2.out.setCell (by simp;omega) _).setCell (by simp;omega) _⟩
theorem zadd_ft_ge (u v:Value) (x y:Nat) (w:World) (hu:Dg w u x) (hv:Dg w v y) (hle:y<=x) (bx:nd x<=549755813888) (b_y:nd y<=549755813888) :
  Calls Tryz.prog 47 #[.agg #[.bool false,u],.agg #[.bool true,v]] w fun e w'=>∃ r,e = .returned (.agg #[.bool (false && decide (0<x - y)),r])/\Dg w' r (x - y)/\Below w.heap.size w w':=by
 have HU:=jj hu;have HV:=jj hv;obtain⟨a1,b1,o1,c1,rfl,i1⟩:=hu;obtain⟨a2,b2,o2,c2,rfl,i2⟩:=hv;have HB:Hid (Below w.heap.size w (((w.alloc (Obj.cells #[Value.bool false,Value.slice a1 (nd x) c1] 38)).alloc (Obj.cells #[Value.bool true,Value.slice a2 (nd y) c2] 38)).alloc (Obj.cells #[.bool false,.slice none 0 0] 38))):=boxes3 w _ _ _;have HLE:=jj hle;have HCM:=jj (fun W=>sizes_any (.slice a1 (nd x) c1) (.slice a2 (nd y) c2) x y W);have hcm:0<=cmpN x y:=by unfold cmpN;rw [if_neg (by omega)];split <;> omega
 clear hle i1 i2;go_enter Tryz.func47,Tryz.ntmps47;go_wp2_with (go_at_call 80;refine (HCM.out _ (HU.out.mono HB.out jl) (HV.out.mono HB.out jl) (by omega) (by omega)).mono ?_;rintro e w' ⟨rfl,hd⟩;obtain⟨nq,rfl⟩:=hd)
 go_region_held3 (fun w'=>w'.cell? ⟨w.heap.size,0,none⟩=some (.bool false)/\w'.cell? ⟨w.heap.size,1,none⟩=some (.slice a1 (nd x) c1)/\w'.cell? ⟨w.heap.size+1,1,none⟩=some (.slice a2 (nd y) c2)) (go_keep)
  (first
   | (go_at_call 81;refine (bless_any _ _ x y _ (((HU.out.mono HB.out jl).drawn (Drawn.of _ nq)).drew) (((HV.out.mono HB.out jl).drawn (Drawn.of _ nq)).drew) HLE.out (by omega)).mono ?_;rintro e w1 ⟨r,f1,rfl,⟨a3,b3,o3,c3,rfl,i3⟩,hf1,hval,hb⟩;have HF1:=jj hf1;have HVL:=jj hval;have HI3:Hid (Raw w1 (.slice a3 (nd x) c3) (nd x) f1):=jj ⟨a3,b3,o3,c3,rfl,i3⟩;have hn2:nd x<=1099511627776:=(by omega);obtain⟨q1,q2,q3,q4,q5,q6,hz1,HB1⟩:=kept3 (w:=w) hb (by simp) ((below_drawN HB.out nq).drew);clear hf1 hval i3)
   | (go_at_call 78;refine (lean_val _ _ (nd x) f1 (x - y) _ HI3.out HF1.out HVL.out hn2).mono ?_;rintro e w2 ⟨a4,c4,rfl,hm2,hb2⟩;have HM2:=jj hm2;obtain⟨p1,p2,p3,p4,p5,p6,hz2,HB2⟩:=kept3 (w:=w) hb2 hz1 HB1.out;clear hm2))
 go_wp2;refine bodyPost_ret (v:=.agg #[.bool (false && decide (0<x - y)),.slice a4 (nd (x - y)) c4]) (by simp [results,Tryz.results47,go_sem,q1,q2,q3,q4,q5,q6,p1,p2,p3,p4,p5,p6]) rfl ?_;exact⟨_,rfl,HM2.out.store2 _ _ (v0:=.bool false) (v1:=.slice none 0 0) (by rw [p3,q3];simp [go_sem]) (by rw [p3,q3];simp [go_sem]) (noInt_bool _) (noInt_slice _ _ _),(HB2.out.setCell (by simp;omega) _).setCell (by simp;omega) _⟩
theorem zadd_ft_lt (u v:Value) (x y:Nat) (w:World) (hu:Dg w u x) (hv:Dg w v y) (hle:x<y) (bx:nd x<=549755813888) (b_y:nd y<=549755813888) :
  Calls Tryz.prog 47 #[.agg #[.bool false,u],.agg #[.bool true,v]] w fun e w'=>∃ r,e = .returned (.agg #[.bool (true && decide (0<y - x)),r])/\Dg w' r (y - x)/\Below w.heap.size w w':=by
 have HU:=jj hu;have HV:=jj hv;obtain⟨a1,b1,o1,c1,rfl,i1⟩:=hu;obtain⟨a2,b2,o2,c2,rfl,i2⟩:=hv;have HB:Hid (Below w.heap.size w (((w.alloc (Obj.cells #[Value.bool false,Value.slice a1 (nd x) c1] 38)).alloc (Obj.cells #[Value.bool true,Value.slice a2 (nd y) c2] 38)).alloc (Obj.cells #[.bool false,.slice none 0 0] 38))):=boxes3 w _ _ _;have HLE:=jj hle;have HCM:=jj (fun W=>sizes_any (.slice a1 (nd x) c1) (.slice a2 (nd y) c2) x y W);have hcm:cmpN x y<0:=by unfold cmpN;rw [if_pos (by omega)];omega
 clear hle i1 i2;go_enter Tryz.func47,Tryz.ntmps47;go_wp2_with (go_at_call 80;refine (HCM.out _ (HU.out.mono HB.out jl) (HV.out.mono HB.out jl) (by omega) (by omega)).mono ?_;rintro e w' ⟨rfl,hd⟩;obtain⟨nq,rfl⟩:=hd)
 go_region_held3 (fun w'=>w'.cell? ⟨w.heap.size+1,0,none⟩=some (.bool true)/\w'.cell? ⟨w.heap.size+1,1,none⟩=some (.slice a2 (nd y) c2)/\w'.cell? ⟨w.heap.size,1,none⟩=some (.slice a1 (nd x) c1)) (go_keep)
  (first
   | (go_at_call 81;refine (bless_any _ _ y x _ (((HV.out.mono HB.out jl).drawn (Drawn.of _ nq)).drew) (((HU.out.mono HB.out jl).drawn (Drawn.of _ nq)).drew) (Nat.le_of_lt HLE.out) (by omega)).mono ?_;rintro e w1 ⟨r,f1,rfl,⟨a3,b3,o3,c3,rfl,i3⟩,hf1,hval,hb⟩;have HF1:=jj hf1;have HVL:=jj hval;have HI3:Hid (Raw w1 (.slice a3 (nd y) c3) (nd y) f1):=jj ⟨a3,b3,o3,c3,rfl,i3⟩;have hn2:nd y<=1099511627776:=(by omega);obtain⟨q1,q2,q3,q4,q5,q6,hz1,HB1⟩:=kept3 (w:=w) hb (by simp) ((below_drawN HB.out nq).drew);clear hf1 hval i3)
   | (go_at_call 78;refine (lean_val _ _ (nd y) f1 (y - x) _ HI3.out HF1.out HVL.out hn2).mono ?_;rintro e w2 ⟨a4,c4,rfl,hm2,hb2⟩;have HM2:=jj hm2;obtain⟨p1,p2,p3,p4,p5,p6,hz2,HB2⟩:=kept3 (w:=w) hb2 hz1 HB1.out;clear hm2))
 go_wp2;refine bodyPost_ret (v:=.agg #[.bool (true && decide (0<y - x)),.slice a4 (nd (y - x)) c4]) (by simp [results,Tryz.results47,go_sem,q1,q2,q3,q4,q5,q6,p1,p2,p3,p4,p5,p6]) rfl ?_;exact⟨_,rfl,HM2.out.store2 _ _ (v0:=.bool false) (v1:=.slice none 0 0) (by rw [p3,q3];simp [go_sem]) (by rw [p3,q3];simp [go_sem]) (noInt_bool _) (noInt_slice _ _ _),(HB2.out.setCell (by simp;omega) _).setCell (by simp;omega) _⟩
end Go.Proofs.YtgmopcncbpdniaaGreat
