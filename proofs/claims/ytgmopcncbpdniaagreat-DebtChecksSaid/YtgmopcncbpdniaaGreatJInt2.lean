import Derived.Test.YtgmopcncbpdniaaGreatJBig2
import Derived.Test.YtgmopcncbpdniaaGreatJOwn
import Derived.Deep.RegionHeld3
import Derived.Deep.DrawnRows
set_option linter.unusedVariables false
set_option linter.unusedSimpArgs false
namespace Go.Proofs.YtgmopcncbpdniaaGreat
open Go.RowKit
theorem subD_step (v x y bw dx dy d b P:Nat) (h:v+y=x+bw*P) (hd:(d:Int)=(dx:Int) - bw - dy+10000*b):v+d*P+(y+dy*P)=(x+dx*P)+b*(P*10000):=by
 have e2:d+dy+bw=dx+10000*b:=by omega
 have e3:d*P+dy*P+bw*P=dx*P+10000*b*P:=by rw [←Nat.add_mul,←Nat.add_mul,←Nat.add_mul,e2]
 have e4:10000*b*P=b*(P*10000):=by grind
 omega
set_option maxHeartbeats 4000000 in
set_option maxRecDepth 100000 in
theorem bless_any (u v:Value) (x y:Nat) (w:World) (hu:Dg w u x) (hv:Dg w v y) (hle:y≤x) (bx:nd x≤549755813888) :
  Calls Tryz.prog 81 #[u,v] w fun e w'=>∃ r f,e = .returned r∧Raw w' r (nd x) f∧(∀ i,i<nd x→f i<10000)∧valD f (nd x)=x - y∧Below w.heap.size w w':=by
 obtain⟨a1,b1,o1,c1',rfl,s1⟩:=hu
 obtain⟨a2,b2,o2,c2',rfl,s2⟩:=hv
 have S1:=Lib.hid s1
 have S2:=Lib.hid s2
 obtain⟨i0,hinf,hz0,hz1,hz2'⟩:=info_parts infoI
 have HLE:=Lib.hid hle
 have hyx:=nd_mono hle
 have KW0:=Lib.hid ((Below.refl w.heap.size w).alloc (Nat.le_refl _) (.cells #[] 3))
 have OW0:=Lib.hid (World.ownsRow_made (e:=3) (base:=w.heap.size) (size:=1) w #[] 0 (Nat.le_refl _) (by unfold maxLen;omega) rfl)
 clear s1 s2 hle
 go_enter Tryz.func81,Tryz.ntmps81
 go_wp2_with fail
 go_loopw [5,6,7,8] (fun v5 v6 v7 _ wr=>∃ (k bw:Nat) (f:Nat→Nat),k≤nd x∧v7 = .int .i64 (k:Nat)∧v6 = .int .i64 (bw:Nat)∧bw≤1∧∃ va vk,v5 = .slice va k vk∧Hid (wr.ownsRow w.heap.size 3 1 (.slice va k vk) k (ics (dI f) k))∧Hid (∀ i,i<k→f i<10000)∧Hid (valD f k+valD (dg y) k=valD (dg x) k+bw*10000 ^ k)∧Hid (Below w.heap.size w wr)) (fun _ _ v7 _ _=>nd x - (intOf v7).toNat)
 case atStart=>exact⟨0,0,fun _=>0,by omega,rfl,rfl,by omega,_,_,rfl,OW0,Lib.hid (fun i hi=>by omega),Lib.hid (by simp [valD]),KW0⟩
 case round=>
  clear KW0 OW0
  obtain⟨k,bw,f,hk,rfl,rfl,hbw,va,vk,rfl,OW,HF,HV,KW⟩:=hrel
  by_cases h:k<nd x
  ·have d0:decide ((k:Int)<((nd x:Nat):Int))=true:=by simpa using h
   have d0n:decide (k<nd x)=true:=by simpa using h
   have hdx:=dg_lt x k
   have hdy:=dg_lt y k
   have ix:=fun W=>ixI S1.out k c1' h W
   have cl:=(S1.out.mono KW.out (Nat.le_refl _)).cell k h
   simp only [ic,dI] at cl
   go_upto_if 25 with (fail)
   clear ix cl
   go_cut [8] (fun v8 wx=>v8 = .int .i64 (((dg x k:Nat):Int) - (bw:Int) - ((dg y k:Nat):Int))∧Hid (wx.ownsRow w.heap.size 3 1 (.slice va k vk) k (ics (dI f) k))∧Hid (Below w.heap.size w wx))
   case first=>
    by_cases c1:k<nd y
    ·have d1:decide ((k:Int)<((nd y:Nat):Int))=true:=by simpa using c1
     have d1n:decide (k<nd y)=true:=by simpa using c1
     have ix:=fun W=>ixI S2.out k c2' c1 W
     have cl:=(S2.out.mono KW.out (Nat.le_refl _)).cell k c1
     simp only [ic,dI] at cl
     go_wp2
     go_meet
     case rel=>exact⟨by simp,OW,KW⟩
    ·have d1:decide ((k:Int)<((nd y:Nat):Int))=false:=by simpa using c1
     have d1n:decide (k<nd y)=false:=by simpa using c1
     have HZ:Hid (dg y k=0):=Lib.hid (dg_far y k (by omega))
     go_wp2
     go_meet
     case rel=>exact⟨by rw [HZ.out];simp,OW,KW⟩
   case rest=>
    clear OW KW
    obtain⟨rfl,OW,KW⟩:=hcut
    obtain⟨s,hs⟩:∃ s:Int,s=((dg x k:Nat):Int) - (bw:Int) - ((dg y k:Nat):Int):=⟨_,rfl⟩
    rw [←hs]
    have hs1 : -10000≤s:=by omega
    have hs2:s≤9999:=by omega
    have HS:=Lib.hid hs
    clear hs
    go_upto_if 33 with (fail)
    go_cut [6,8] (fun v6 v8 wx=>∃ d b:Nat,v6 = .int .i64 (b:Nat)∧v8 = .int .i64 (d:Nat)∧d<10000∧b≤1∧Hid ((d:Int)=s+10000*(b:Int))∧Hid (wx.ownsRow w.heap.size 3 1 (.slice va k vk) k (ics (dI f) k))∧Hid (Below w.heap.size w wx))
    case first=>
     by_cases c1:s<0
     ·have d1:decide (s<0)=true:=by simpa using c1
      go_wp2
      go_meet
      case rel=>exact⟨(s+10000).toNat,1,rfl,by rw [Int.toNat_of_nonneg (by omega)],by omega,by omega,Lib.hid (by rw [Int.toNat_of_nonneg (by omega)];omega),OW,KW⟩
     ·have d1:decide (s<0)=false:=by simpa using c1
      go_wp2
      go_meet
      case rel=>exact⟨s.toNat,0,rfl,by rw [Int.toNat_of_nonneg (by omega)],by omega,by omega,Lib.hid (by rw [Int.toNat_of_nonneg (by omega)];omega),OW,KW⟩
    case rest=>
     clear OW KW
     obtain⟨d,b,rfl,rfl,hd,hb,HDB,OW,KW⟩:=hcut
     have HST:=Lib.hid (subD_step (valD f k) (valD (dg x) k) (valD (dg y) k) bw (dg x k) (dg y k) d b (10000 ^ k) HV.out (by have:=HDB.out;have:=HS.out;omega))
     go_wp2_with (at_builtin;refine wpList_append_own _ rfl (.tmp 36) (.tmp 38) 24 rfl w.heap.size 3 i0 (.int .i64 0) 1 8 Tryz.underlying24 hinf hz0 hz1 hz2' rfl (by decide) (.slice va k vk) k (ics (dI f) k) rfl (OW.out.alloc _) ⟨wc.heap.size,0,none⟩ 1 1 [.int .i64 ((d:Nat):Int)] rfl rfl (new1 wc (.int .i64 ((d:Nat):Int)) 3) (one1 _ rfl) (by unfold maxLen;omega) (by omega) (by have:=KW.out.size;simp;omega) ?_;intro v' w5 hown hgrow _;have KW5:=Lib.hid ((KW.out.alloc KW.out.size _).grown hgrow (by have:=KW.out.size;simp;omega) (fun kk e=>(OW.out.lt kk e).1));rw [ics_setN] at hown;obtain⟨va5,vk5,rfl⟩:=own_shape hown;have OW5:=Lib.hid hown;clear hown hgrow)
     go_roundw
     case rel=>
      refine⟨k+1,b,setN f k d,by omega,by go_num,rfl,hb,va5,vk5,rfl,OW5,Lib.hid (setN_lt HF.out hd),Lib.hid ?_,KW5⟩
      rw [valD_setN,Nat.pow_succ]
      exact HST.out
     case measure=>simp [intOf];omega
  ·obtain rfl:k=nd x:=by omega
   have d0:decide (((nd x:Nat):Int)<((nd x:Nat):Int))=false:=by simp
   have HL:Hid (valD f (nd x)=x - y):=Lib.hid (by
    have h1:=HV.out
    rw [valD_nd,valD_dg_le y _ hyx] at h1
    have h2:=valD_lt f (nd x) HF.out
    have h3:=HLE.out
    have:bw=0∨bw=1:=by omega
    rcases this with e | e
    ·subst e;omega
    ·subst e;omega)
   go_wp2
   go_ret
   exact⟨_,f,rfl,ints_of_own OW.out,HF.out,HL.out,KW.out⟩
end Go.Proofs.YtgmopcncbpdniaaGreat
namespace Go.Proofs.YtgmopcncbpdniaaGreat
open Go.RowKit
attribute [local go_sem ↓] Go.wp_at_zero Go.wp_at_succ
theorem dg_keep {w w':World} {u:Value} {x:Nat} (h:Dg w u x) (hb:Below w.heap.size w w'):Dg w' u x∧Below w.heap.size w w':=⟨h.mono hb (Nat.le_refl _),hb⟩
theorem bneg_any (u:Value) (s:Bool) (x:Nat) (w:World) (hu:Dg w u x) :
  Calls Tryz.prog 93 #[.agg #[.bool s,u]] w fun e w'=>e = .returned (.agg #[.bool (!s && decide (0<x)),u])∧Dg w' u x∧Below w.heap.size w w':=by
 have HU:=Lib.hid hu
 obtain⟨a1,b1,o1,c1,rfl,i1⟩:=hu
 have hp:=nd_pos x
 clear i1
 cases s with
 | true=>
  clear hp
  go_enter Tryz.func93,Tryz.ntmps93
  go_wp2
  refine bodyPost_ret (v:=.agg #[.bool false,.slice a1 (nd x) c1]) (by simp [results,Tryz.results93,go_sem]) rfl ⟨by simp,dg_keep HU.out ?_⟩
  exact boxes2 w _ _
 | false=>
  by_cases h:0<x
  ·have h2:0<nd x:=hp.2 h
   have d2:decide ((0:Int)<((nd x:Nat):Int))=true:=by simp;omega
   have HH:=Lib.hid h
   clear hp h
   go_enter Tryz.func93,Tryz.ntmps93
   go_wp2
   refine bodyPost_ret (v:=.agg #[.bool true,.slice a1 (nd x) c1]) (by simp [results,Tryz.results93,go_sem]) rfl ⟨by simp [HH.out],dg_keep HU.out ?_⟩
   exact boxes2 w _ _
  ·have h2:¬ 0<nd x:=fun q=>h (hp.1 q)
   have d2:decide ((0:Int)<((nd x:Nat):Int))=false:=by simp;omega
   have HH:=Lib.hid h
   clear hp h
   go_enter Tryz.func93,Tryz.ntmps93
   go_wp2
   refine bodyPost_ret (v:=.agg #[.bool false,.slice a1 (nd x) c1]) (by simp [results,Tryz.results93,go_sem]) rfl ⟨by simp [HH.out],dg_keep HU.out ?_⟩
   exact boxes2 w _ _
theorem babs_any (u:Value) (s:Bool) (x:Nat) (w:World) (hu:Dg w u x) :
  Calls Tryz.prog 120 #[.agg #[.bool s,u]] w fun e w'=>e = .returned (.agg #[.bool false,u])∧Dg w' u x∧Below w.heap.size w w':=by
 have HU:=Lib.hid hu
 obtain⟨a1,b1,o1,c1,rfl,i1⟩:=hu
 clear i1
 go_enter Tryz.func120,Tryz.ntmps120
 go_wp2
 refine bodyPost_ret (v:=.agg #[.bool false,.slice a1 (nd x) c1]) (by simp [results,Tryz.results120,go_sem]) rfl ⟨rfl,dg_keep HU.out ?_⟩
 exact boxes2 w _ _
def sgZ (z:Int):Int:=if z<0 then -1 else if z=0 then 0 else 1
theorem bsign_any (v:Value) (z:Int) (m:Nat) (w:World) (hv:ZIs w v z m) :
  Calls Tryz.prog 29 #[v] w fun e w'=>e = .returned (.int .i64 (sgZ z))∧Below w.heap.size w w':=by
 obtain⟨u,rfl,hu,_⟩:=hv
 obtain⟨a1,b1,o1,c1,rfl,i1⟩:=hu
 have hp:=nd_pos z.natAbs
 clear i1
 by_cases h0:z=0
 ·subst h0
  have e0:nd (0:Int).natAbs=0:=nd_zero
  have HS:Hid (sgZ 0=0):=Lib.hid (by simp [sgZ])
  rw [e0]
  clear hp e0
  go_enter Tryz.func29,Tryz.ntmps29
  go_wp2
  go_ret
  exact⟨by rw [HS.out];rfl,boxes1 w _⟩
 ·have h2:0<nd z.natAbs:=hp.2 (by omega)
  have d2:(((nd z.natAbs:Nat):Int) == 0)=false:=by simp;omega
  have d3:¬ nd z.natAbs=0:=by omega
  clear hp
  by_cases h1:z<0
  ·have e1:decide (z<0)=true:=by simpa using h1
   rw [e1]
   have HS:Hid (sgZ z = -1):=Lib.hid (by unfold sgZ;rw [if_pos h1])
   clear e1 h1 h0
   go_enter Tryz.func29,Tryz.ntmps29
   go_wp2
   go_ret
   exact⟨by rw [HS.out];rfl,boxes1 w _⟩
  ·have e1:decide (z<0)=false:=by simpa using h1
   rw [e1]
   have HS:Hid (sgZ z=1):=Lib.hid (by unfold sgZ;rw [if_neg h1,if_neg h0])
   clear e1 h1 h0
   go_enter Tryz.func29,Tryz.ntmps29
   go_wp2
   go_ret
   exact⟨by rw [HS.out];rfl,boxes1 w _⟩
end Go.Proofs.YtgmopcncbpdniaaGreat
namespace Go.Proofs.YtgmopcncbpdniaaGreat
open Go.RowKit
theorem lz_any (x s:Nat) (hx:x<4294967296) (hs:(32 - (Lib.bitLen x:Int))=(s:Int)) (W:World) :
  Calls Tryz.prog 146 #[.int .u32 (x:Nat)] W fun e w'=>e = .returned (.int .i64 (s:Nat))∧W=w':=by
 refine (Tryz.bits_LeadingZeros32 (x:Int) W (by omega) (by omega)).mono ?_
 rintro e w' ⟨rfl,rfl⟩
 rw [Int.toNat_natCast,hs]
 exact⟨rfl,rfl⟩
theorem slice_win (g cap j n:Nat) (hn:j+n+1≤cap) (W:World) :
  (Instr.slice 88 (.slice (some ⟨g,0,none⟩) cap cap) (some (.int .i64 (j:Int))) (some (.int .i64 ((j:Int)+n+1))) none).run Tryz.prog W = .ok (.slice (some ⟨g,j,none⟩) (n+1) (cap - j)) W:=by
 rw [run_slice_lh W _ _ _ _ u32s _ _ _ _ (by omega) (by omega) (by omega),s32s]
 simp only [Result.andThen,sliced]
 rw [show ((j:Int)).toNat=j from rfl,show ((j:Int)+n+1).toNat=j+n+1 from by omega,if_neg (by omega)]
 congr 2
 ·simp only [Option.map_some,Nat.mul_one,Addr.add]
  split <;> simp_all
 ·omega
theorem row_grown {w w':World} {b t n g:Nat} {q:Nat→Value} (h:w.rowIs b t n q) (hg:w.grownBy w' (some g)) (hne:b≠g):w'.rowIs b t n q:=
 h.of_block (hg.block b h.lt (by intro e;exact hne (Option.some.inj e)))
theorem row_below {w w':World} {b t n B:Nat} {q:Nat→Value} (h:w.rowIs b t n q) (hb:Below B w w') (hB:w.heap.size≤B):w'.rowIs b t n q:=
 h.of_block (hb.block b (Nat.lt_of_lt_of_le h.lt hB))
set_option maxHeartbeats 4000000 in
theorem part_many (u v:Value) (x y:Nat) (w:World) (hu:Mag w u x) (hv:Mag w v y) (hle:y≤x) (hny:2≤nl y) (bx:nl x≤549755813888) :
  Calls Tryz.prog 134 #[u,v] w fun e w'=>∃ q r,e = .returned (.tuple #[q,r])∧Mag w' q (x / y)∧Mag w' r (x % y)∧Below w.heap.size w w':=by
 have hcm:0≤cmpN x y:=by unfold cmpN;rw [if_neg (by omega)];split <;> omega
 have hnxy:=nl_mono hle
 have hyp:0<y:=by rw [←nl_pos];omega
 obtain⟨s,hs32,hsb,hsn,hst⟩:=shift_facts y (nl y) rfl (by omega)
 have hp0:0<2 ^ s:=Nat.two_pow_pos s
 have HC:=Lib.hid (fun (W:World)=>compare_any u v x y W)
 have HLZ:=Lib.hid (lz_any (dig y (nl y - 1)) s (dig_lt _ _) hsb)
 have HU:=Lib.hid hu
 have HV:=Lib.hid hv
 obtain⟨a1,b1,o1,c1,rfl,i1⟩:=hu
 obtain⟨a2,b2,o2,c2,rfl,i2⟩:=hv
 have hc:=i2.cell (nl y - 1) (by omega)
 simp only [lc] at hc
 have hx0:=fun W=>ix32 i2 ((nl y:Int) - 1) (by omega) (by omega) (nl y) c2 W
 rw [show ((nl y:Int) - 1).toNat=nl y - 1 from by omega] at hx0
 have htr:trimN (dig (y*2 ^ s)) (nl y+1)=nl y:=by
  rw [←nl_valF _ _ (fun i _=>dig_lt _ _),valF_dig_le _ _ (by omega),hsn]
 have hl1:(((nl y:Nat):Int) == 1)=false:=by simp;omega
 have HST:=Lib.hid hst
 have HSN:=Lib.hid hsn
 have HLE:=Lib.hid hle
 clear hsb hst hsn hle
 go_enter Tryz.func134,Tryz.ntmps134
 go_wp2_with (first | (go_at_call 105;refine (HC.out _ HU.out HV.out (by omega) (by omega)).mono ?_;rintro e w' ⟨rfl,nd,rfl⟩) | (go_at_call 146;refine (HLZ.out _).mono ?_;rintro e w' ⟨rfl,rfl⟩))
 refine (up_any _ y s _ (HV.out.drawn (Drawn.of _ _)) hs32 (by omega)).mono ?_
 rintro e W1 ⟨rfl,hrow1,hb1⟩
 simp only [World.heap_drewN] at hrow1 hb1
 go_wp2_with fail
 refine (trim_any _ w.heap.size 0 _ _ (dig (y*2 ^ s)) _ (by omega) (IsSl.of_row hrow1 (Nat.le_refl _) _ (Nat.le_refl _))).mono ?_
 rintro e w' ⟨rfl,hww⟩
 have hww2:=hww.symm
 clear hww
 subst hww2
 go_wp2_with fail
 have HU1:Mag W1 (.slice a1 (nl x) c1) x:=(HU.out.drawn (Drawn.of _ nd)).mono hb1 (Nat.le_refl _)
 refine (up_any _ x s _ HU1 hs32 (by omega)).mono ?_
 rintro e W2 ⟨rfl,hrow2,hb2⟩
 have HR1:=Lib.hid hrow1
 have HR2:=Lib.hid hrow2
 have HB1:=Lib.hid hb1
 have HB2:=Lib.hid hb2
 clear hrow1 hrow2 hb1 hb2 HU1
 have hmk:=run_make_row' (P:=Tryz.prog) 88 145 (.int .u32 0) 4 Tryz.underlying88 info32 rfl .i64 .i64 (nl x - nl y+1) (by omega) (by omega)
 have ec:((nl x - nl y+1:Nat):Int)=(nl x:Int) - (nl y:Int)+1:=by omega
 rw [ec] at hmk
 clear ec
 go_wp2_with fail
 have z12:=HR1.out.lt
 have z23:=HR2.out.lt
 have HM:=Lib.hid (World.rowIs_made W2 (.int .u32 0) (nl x - nl y+1) 145)
 obtain⟨X,hX⟩:∃ X,X=x*2 ^ s:=⟨_,rfl⟩
 obtain⟨Y,hY⟩:∃ Y,Y=y*2 ^ s:=⟨_,rfl⟩
 rw [←hX] at HR2
 rw [←hY] at HR1 HST HSN htr
 have hY0:0<Y:=by rw [hY];exact Nat.mul_pos hyp hp0
 have hXY:X<Y*4294967296 ^ (nl x - nl y+1):=by rw [hX,hY];exact start_small x y _ _ _ rfl rfl (by omega) hnxy hp0
 have hXl:X<4294967296 ^ (nl x+1):=by
  rw [hX,Nat.pow_succ]
  have:2 ^ s≤4294967296:=by
   have:=Nat.pow_le_pow_right (n:=2) (by omega) (show s≤32 by omega)
   omega
  exact Nat.lt_of_lt_of_le (Nat.mul_lt_mul_of_pos_right (lt_pow_nl x) hp0) (Nat.mul_le_mul_left _ this)
 have hYl:Y≤4294967296 ^ nl y:=by
  have:=lt_pow_nl Y
  rw [HSN.out] at this
  omega
 have HX:=Lib.hid hX
 have HY:=Lib.hid hY
 have HXY:=Lib.hid hXY
 have HXL:=Lib.hid hXl
 have HYL:=Lib.hid hYl
 clear hX hY hXY hXl hYl htr hmk hc hx0
 go_loopw [13] (fun i wr=>∃ (k:Nat) (f qf:Nat→Nat),k≤nl x - nl y+1∧i = .int .i64 ((k:Int) - 1)∧wr.rowIs W1.heap.size 145 (nl x+1) (fun t=>.int .u32 (f t:Nat))∧
   (∀ t,t<nl x+1→f t<4294967296)∧valF f (k+nl y)=X % (Y*4294967296 ^ k)∧wr.rowIs W2.heap.size 145 (nl x - nl y+1) (fun t=>.int .u32 (qf t:Nat))∧
   (∀ t,k≤t→t<nl x - nl y+1→qf t=dig (X / Y) t)∧IsSl wr (some ⟨w.heap.size,0,none⟩) w.heap.size 0 (nl y+1) (nl y) (lc Y)∧Below w.heap.size w wr) (fun i _=>(intOf i+1).toNat)
 case atStart=>
  have b12:Below w.heap.size w W1:=((Drawn.of w nd).below _).trans (HB1.out.mono (Nat.le_refl _))
  have b2:Below w.heap.size w W2:=b12.trans (HB2.out.mono (by omega))
  have r1:W2.rowIs w.heap.size 145 (nl y+1) (lc Y):=row_below HR1.out HB2.out (Nat.le_refl _)
  refine⟨nl x - nl y+1,dig X,fun _=>0,Nat.le_refl _,by congr 1;omega,HR2.out.alloc _,fun _ _=>dig_lt _ _,?_,HM.out,fun t h1 h2=>by omega,IsSl.of_row (r1.alloc _) (by omega) _ (by omega),b2.alloc (by omega) _⟩
  rw [show nl x - nl y+1+nl y=nl x+1 from by omega,valF_dig,Nat.mod_eq_of_lt HXL.out,Nat.mod_eq_of_lt HXY.out]
 case round=>
  obtain⟨k,f,qf,hk,rfl,hrow,hf,hval,hq,hqf,hv2,hb⟩:=hrel
  have HF:=Lib.hid hf
  have HVAL:=Lib.hid hval
  have HQF:=Lib.hid hqf
  have HV2:=Lib.hid hv2
  clear hf hval hqf hv2
  by_cases h0:0<k
  ·have hsl:=slice_win W1.heap.size (nl x+1) (k - 1) (nl y) (by omega)
   rw [show ((k - 1:Nat):Int)=(k:Int) - 1 from by omega] at hsl
   have hwin:valF (win f (k - 1)) (nl y+1)<Y*4294967296:=by
    refine win_lt f (k - 1) (nl y) X Y ?_ hY0
    rw [show k - 1+(nl y+1)=k+nl y from by omega,show k - 1+1=k from by omega]
    exact HVAL.out
   have HWIN:=Lib.hid hwin
   clear hwin
   go_wp2_with (go_at_call 148;refine (digit_any W1.heap.size (nl x+1) (k - 1) (nl y) _ f _ w.heap.size 0 _ Y _ HV2.out HSN.out hny (by omega) hrow HF.out (by omega) (by omega) (by omega) HST.out HWIN.out).mono ?_;rintro e w' ⟨f',rfl,hrow',hsame',hf',hval',hgr'⟩;have hq':=row_grown hq hgr' (by omega);have hcq:=hq'.cell (i:=k - 1) (by omega);have hfq:=hq'.frozen (k - 1);have HS:=Lib.hid hsame';have HF2:=Lib.hid hf';have HV3:=Lib.hid hval';clear hsame' hf' hval')
   go_roundw
   case rel=>
    have hqs:=quo_step f f' (k - 1) (nl y) X Y (fun i hi=>HF.out i (by omega)) (fun i hi=>HF2.out _ (by omega)) hY0 HYL.out
     (by rw [show k - 1+(nl y+1)=k+nl y from by omega,show k - 1+1=k from by omega];exact HVAL.out) (fun t ht=>HS.out t (by omega)) HV3.out
    refine⟨k - 1,f',upd qf (k - 1) (valF (win f (k - 1)) (nl y+1) / Y),by omega,by congr 1;omega,hrow'.setOther (by show W1.heap.size≠W2.heap.size;omega) _,HF2.out,hqs.1,row_upd hq' _ _ rfl,?_,
     (HV2.out.grown hgr' (by omega)).grown (grown_set (World.grownBy.refl _ _) _ _) (by omega),(hb.grown hgr' hb.size (fun j hj=>by cases hj;omega)).setCell (by show w.heap.size≤W2.heap.size;omega) _⟩
    intro t h1 h2
    unfold upd
    split
    ·rename_i e;rw [e];exact hqs.2
    ·exact HQF.out t (by omega) h2
   case measure=>simp [intOf];omega
  ·obtain rfl:k=0:=by omega
   have hq1:∀ t,t<nl x - nl y+1→qf t=dig (X / Y) t:=fun t ht=>HQF.out t (Nat.zero_le _) ht
   have hXY2:X / Y=x / y:=by rw [HX.out,HY.out];exact Nat.mul_div_mul_right _ _ hp0
   have hm2:X % Y / 2 ^ s=x % y:=by rw [HX.out,HY.out,Nat.mul_mod_mul_right,Nat.mul_div_cancel _ hp0]
   have hr1:valF f (nl y)=X % Y:=by have:=HVAL.out;simpa using this
   have hql:X / Y<4294967296 ^ (nl x - nl y+1):=by rw [Nat.div_lt_iff_lt_mul hY0,Nat.mul_comm];exact HXY.out
   have hqv:valF qf (nl x - nl y+1)=x / y:=by rw [valF_congr hq1,valF_dig,Nat.mod_eq_of_lt hql,hXY2]
   have hql2:∀ t,t<nl x - nl y+1→qf t<4294967296:=fun t ht=>by rw [hq1 t ht];exact dig_lt _ _
   have m1:=trim_mag hql2 (IsSl.of_row hq (Nat.le_refl _) (nl x - nl y+1) (Nat.le_refl _))
   have m2:=trim_mag (n:=nl y) (fun t ht=>HF.out t (by omega)) (IsSl.of_row hrow (by omega) (nl x+1) (by omega))
   rw [hqv] at m1
   rw [hr1] at m2
   have hnr:nl (X % Y)≤549755813889:=by
    have:=nl_mono (Nat.le_of_lt (Nat.mod_lt X hY0))
    rw [HSN.out] at this
    omega
   have M1:=Lib.hid m1
   have M2:=Lib.hid m2
   have HM2:=Lib.hid hm2
   clear hq1 hXY2 hm2 hr1 hql hqv hql2 m1 m2
   go_wp2
   go_region_with (first | (go_at_call 125;(with_reducible refine (trim_any (some ⟨W2.heap.size,0,none⟩) W2.heap.size 0 (nl x - nl y+1) (nl x - nl y+1) qf _ (by omega) (IsSl.of_row hq (Nat.le_refl _) _ (Nat.le_refl _)).drew).mono ?_);rintro e w' ⟨rfl,hww⟩;have hww2:=hww.symm;clear hww;subst hww2) | (go_at_call 125;(with_reducible refine (trim_any (some ⟨W1.heap.size,0,none⟩) W1.heap.size 0 (nl x+1) (nl y) f _ (by omega) (IsSl.of_row hrow (by omega) _ (by omega)).drew).mono ?_);rintro e w' ⟨rfl,hww⟩;have hww2:=hww.symm;clear hww;subst hww2) | (go_at_call 149;refine (down_any _ (X % Y) s _ M2.out.drew hs32 (by omega)).mono ?_;rintro e w5 ⟨r5,rfl,hr5,hb5⟩))
   all_goals
    go_wp2
    go_ret2
    refine⟨.slice (some ⟨W2.heap.size,0,none⟩) (trimN qf (nl x - nl y+1)) (nl x - nl y+1),r5,rfl,M1.out.drew.mono hb5 (Nat.le_refl _),?_,hb.drew.trans (hb5.mono hb.size)⟩
    rw [←HM2.out]
    exact hr5
theorem part_any (u v:Value) (x y:Nat) (w:World) (hu:Mag w u x) (hv:Mag w v y) (hy:0<y) (bx:nl x≤549755813888) (b_y:nl y≤549755813888) :
  Calls Tryz.prog 134 #[u,v] w fun e w'=>∃ q r,e = .returned (.tuple #[q,r])∧Mag w' q (x / y)∧Mag w' r (x % y)∧Below w.heap.size w w':=by
 rcases Nat.lt_or_ge x y with h | h
 ·exact part_less u v x y w hu hv h (by omega) (by omega)
 ·have h1:=(nl_pos y).2 hy
  by_cases h2:nl y=1
  ·exact part_one u v x y w hu hv h h2 (by omega)
  ·exact part_many u v x y w hu hv h (by omega) bx
end Go.Proofs.YtgmopcncbpdniaaGreat
namespace Go.Proofs.YtgmopcncbpdniaaGreat
open Go.RowKit
theorem made_any (u:Value) (s:Bool) (x:Nat) (w:World) (hu:Mag w u x) :
  Calls Tryz.prog 106 #[.bool s,u] w fun e w'=>e = .returned (.agg #[.bool (s && decide (0<x)),u])∧Mag w' u x∧Below w.heap.size w w':=by
 have HU:=Lib.hid hu
 obtain⟨a1,b1,o1,c1,rfl,i1⟩:=hu
 have HM:Hid (∀ v0 v1,Mag (w.alloc (Obj.cells #[v0,v1] 90)) (.slice a1 (nl x) c1) x):=fun v0 v1=>HU.out.alloc _
 have HB:=Lib.hid (fun (v0 v1:Value)=>boxes1 w (Obj.cells #[v0,v1] 90))
 have hp:=nl_pos x
 cases s with
 | false=>
  go_enter Tryz.func106,Tryz.ntmps106
  go_wp2
  refine bodyPost_ret (v:=.agg #[.bool false,.slice a1 (nl x) c1]) (by simp [results,Tryz.results106,go_sem]) rfl ?_
  exact⟨by simp,HM.out _ _,HB.out _ _⟩
 | true=>
  by_cases h:0<x
  ·have h2:0<nl x:=hp.2 h
   clear hp
   go_enter Tryz.func106,Tryz.ntmps106
   go_wp2
   refine bodyPost_ret (v:=.agg #[.bool true,.slice a1 (nl x) c1]) (by simp [results,Tryz.results106,go_sem]) rfl ?_
   exact⟨by simp [h],HM.out _ _,HB.out _ _⟩
  ·have h2:¬ 0<nl x:=fun q=>h (hp.1 q)
   clear hp
   go_enter Tryz.func106,Tryz.ntmps106
   go_wp2
   refine bodyPost_ret (v:=.agg #[.bool false,.slice a1 (nl x) c1]) (by simp [results,Tryz.results106,go_sem]) rfl ?_
   exact⟨by simp [h],HM.out _ _,HB.out _ _⟩
end Go.Proofs.YtgmopcncbpdniaaGreat
namespace Go.Proofs.YtgmopcncbpdniaaGreat
open Go.RowKit
attribute [local go_sem ↓] Go.wp_at_zero Go.wp_at_succ
set_option maxHeartbeats 2000000 in
theorem add_same (u v:Value) (s t:Bool) (x y:Nat) (w:World) (hu:Mag w u x) (hv:Mag w v y)  (bx:nl x≤549755813888) (b_y:nl y≤549755813888) :
  Calls Tryz.prog 98 #[.agg #[.bool s,u],.agg #[.bool s,v]] w fun e w'=>∃ r,e = .returned (.agg #[.bool (s && decide (0<x+y)),r])∧Mag w' r (x+y)∧Below w.heap.size w w':=by
 have HU:=Lib.hid hu
 have HV:=Lib.hid hv
 obtain⟨a1,b1,o1,c1,rfl,i1⟩:=hu
 obtain⟨a2,b2,o2,c2,rfl,i2⟩:=hv
 have HB:Hid (Below w.heap.size w (((w.alloc (Obj.cells #[Value.bool s,Value.slice a1 (nl x) c1] 90)).alloc (Obj.cells #[Value.bool s,Value.slice a2 (nl y) c2] 90)).alloc (Obj.cells #[.bool false,.slice none 0 0] 90))):=boxes3 w _ _ _
 go_enter Tryz.func98,Tryz.ntmps98
 go_wp2
 go_region_held3 (fun w'=>w'.cell? ⟨w.heap.size,0,none⟩=some (.bool s)∧w'.cell? ⟨w.heap.size,1,none⟩=some (.slice a1 (nl x) c1)∧w'.cell? ⟨w.heap.size+1,1,none⟩=some (.slice a2 (nl y) c2)) (go_keep)
  (first
   | (go_at_call 126;refine (plus_any _ _ x y _ ((HU.out.mono HB.out (Nat.le_refl _)).drew) ((HV.out.mono HB.out (Nat.le_refl _)).drew) (by omega) (by omega)).mono ?_;rintro e w1 ⟨r,rfl,⟨a3,b3,o3,c3,rfl,i3⟩,hb⟩;obtain⟨q1,q2,q3,q4,q5,q6,hz1,HB1⟩:=kept3 (w:=w) hb (by simp) (HB.out.drew))
   | (go_at_call 106;refine (made_any _ _ (x+y) _ ⟨a3,b3,o3,c3,rfl,i3⟩).mono ?_;rintro e w2 ⟨rfl,hm2,hb2⟩;obtain⟨p1,p2,p3,p4,p5,p6,hz2,HB2⟩:=kept3 (w:=w) hb2 hz1 HB1.out))
 go_wp2
 refine bodyPost_ret (v:=.agg #[.bool (s && decide (0<x+y)),.slice a3 (nl (x+y)) c3]) (by simp [results,Tryz.results98,go_sem,q1,q2,q3,q4,q5,q6,p1,p2,p3,p4,p5,p6]) rfl ?_
 exact⟨_,rfl,hm2.store2 _ _ (v0:=.bool false) (v1:=.slice none 0 0) (by rw [p3,q3];simp [go_sem]) (by rw [p3,q3];simp [go_sem]) (noInt_bool _) (noInt_slice _ _ _),(HB2.out.setCell (by simp;omega) _).setCell (by simp;omega) _⟩
set_option maxHeartbeats 2000000 in
theorem add_tf_ge (u v:Value) (s t:Bool) (x y:Nat) (w:World) (hu:Mag w u x) (hv:Mag w v y) (hle:y≤x) (bx:nl x≤549755813888) (b_y:nl y≤549755813888) :
  Calls Tryz.prog 98 #[.agg #[.bool true,u],.agg #[.bool false,v]] w fun e w'=>∃ r,e = .returned (.agg #[.bool (true && decide (0<x - y)),r])∧Mag w' r (x - y)∧Below w.heap.size w w':=by
 have HU:=Lib.hid hu
 have HV:=Lib.hid hv
 obtain⟨a1,b1,o1,c1,rfl,i1⟩:=hu
 obtain⟨a2,b2,o2,c2,rfl,i2⟩:=hv
 have HB:Hid (Below w.heap.size w (((w.alloc (Obj.cells #[Value.bool true,Value.slice a1 (nl x) c1] 90)).alloc (Obj.cells #[Value.bool false,Value.slice a2 (nl y) c2] 90)).alloc (Obj.cells #[.bool false,.slice none 0 0] 90))):=boxes3 w _ _ _
 have HLE:=Lib.hid hle
 have HCM:=Lib.hid (fun W=>compare_any (.slice a1 (nl x) c1) (.slice a2 (nl y) c2) x y W)
 have hcm:0≤cmpN x y:=by unfold cmpN;rw [if_neg (by omega)];split <;> omega
 clear hle
 go_enter Tryz.func98,Tryz.ntmps98
 go_wp2_with (go_at_call 105;refine (HCM.out _ (HU.out.mono HB.out (Nat.le_refl _)) (HV.out.mono HB.out (Nat.le_refl _)) (by omega) (by omega)).mono ?_;rintro e w' ⟨rfl,nd,rfl⟩)
 go_region_held3 (fun w'=>w'.cell? ⟨w.heap.size,0,none⟩=some (.bool true)∧w'.cell? ⟨w.heap.size,1,none⟩=some (.slice a1 (nl x) c1)∧w'.cell? ⟨w.heap.size+1,1,none⟩=some (.slice a2 (nl y) c2)) (go_keep)
  (first
   | (go_at_call 127;refine (minus_any _ _ x y _ (((HU.out.mono HB.out (Nat.le_refl _)).drawn (Drawn.of _ nd)).drew) (((HV.out.mono HB.out (Nat.le_refl _)).drawn (Drawn.of _ nd)).drew) HLE.out (by omega)).mono ?_;rintro e w1 ⟨r,rfl,⟨a3,b3,o3,c3,rfl,i3⟩,hb⟩;obtain⟨q1,q2,q3,q4,q5,q6,hz1,HB1⟩:=kept3 (w:=w) hb (by simp) ((below_drawN HB.out nd).drew))
   | (go_at_call 106;refine (made_any _ _ (x - y) _ ⟨a3,b3,o3,c3,rfl,i3⟩).mono ?_;rintro e w2 ⟨rfl,hm2,hb2⟩;obtain⟨p1,p2,p3,p4,p5,p6,hz2,HB2⟩:=kept3 (w:=w) hb2 hz1 HB1.out))
 go_wp2
 refine bodyPost_ret (v:=.agg #[.bool (true && decide (0<x - y)),.slice a3 (nl (x - y)) c3]) (by simp [results,Tryz.results98,go_sem,q1,q2,q3,q4,q5,q6,p1,p2,p3,p4,p5,p6]) rfl ?_
 exact⟨_,rfl,hm2.store2 _ _ (v0:=.bool false) (v1:=.slice none 0 0) (by rw [p3,q3];simp [go_sem]) (by rw [p3,q3];simp [go_sem]) (noInt_bool _) (noInt_slice _ _ _),(HB2.out.setCell (by simp;omega) _).setCell (by simp;omega) _⟩
set_option maxHeartbeats 2000000 in
theorem add_tf_lt (u v:Value) (s t:Bool) (x y:Nat) (w:World) (hu:Mag w u x) (hv:Mag w v y) (hle:x<y) (bx:nl x≤549755813888) (b_y:nl y≤549755813888) :
  Calls Tryz.prog 98 #[.agg #[.bool true,u],.agg #[.bool false,v]] w fun e w'=>∃ r,e = .returned (.agg #[.bool (false && decide (0<y - x)),r])∧Mag w' r (y - x)∧Below w.heap.size w w':=by
 have HU:=Lib.hid hu
 have HV:=Lib.hid hv
 obtain⟨a1,b1,o1,c1,rfl,i1⟩:=hu
 obtain⟨a2,b2,o2,c2,rfl,i2⟩:=hv
 have HB:Hid (Below w.heap.size w (((w.alloc (Obj.cells #[Value.bool true,Value.slice a1 (nl x) c1] 90)).alloc (Obj.cells #[Value.bool false,Value.slice a2 (nl y) c2] 90)).alloc (Obj.cells #[.bool false,.slice none 0 0] 90))):=boxes3 w _ _ _
 have HLE:=Lib.hid hle
 have HCM:=Lib.hid (fun W=>compare_any (.slice a1 (nl x) c1) (.slice a2 (nl y) c2) x y W)
 have hcm:cmpN x y<0:=by unfold cmpN;rw [if_pos (by omega)];omega
 clear hle
 go_enter Tryz.func98,Tryz.ntmps98
 go_wp2_with (go_at_call 105;refine (HCM.out _ (HU.out.mono HB.out (Nat.le_refl _)) (HV.out.mono HB.out (Nat.le_refl _)) (by omega) (by omega)).mono ?_;rintro e w' ⟨rfl,nd,rfl⟩)
 go_region_held3 (fun w'=>w'.cell? ⟨w.heap.size+1,0,none⟩=some (.bool false)∧w'.cell? ⟨w.heap.size+1,1,none⟩=some (.slice a2 (nl y) c2)∧w'.cell? ⟨w.heap.size,1,none⟩=some (.slice a1 (nl x) c1)) (go_keep)
  (first
   | (go_at_call 127;refine (minus_any _ _ y x _ (((HV.out.mono HB.out (Nat.le_refl _)).drawn (Drawn.of _ nd)).drew) (((HU.out.mono HB.out (Nat.le_refl _)).drawn (Drawn.of _ nd)).drew) (Nat.le_of_lt HLE.out) (by omega)).mono ?_;rintro e w1 ⟨r,rfl,⟨a3,b3,o3,c3,rfl,i3⟩,hb⟩;obtain⟨q1,q2,q3,q4,q5,q6,hz1,HB1⟩:=kept3 (w:=w) hb (by simp) ((below_drawN HB.out nd).drew))
   | (go_at_call 106;refine (made_any _ _ (y - x) _ ⟨a3,b3,o3,c3,rfl,i3⟩).mono ?_;rintro e w2 ⟨rfl,hm2,hb2⟩;obtain⟨p1,p2,p3,p4,p5,p6,hz2,HB2⟩:=kept3 (w:=w) hb2 hz1 HB1.out))
 go_wp2
 refine bodyPost_ret (v:=.agg #[.bool (false && decide (0<y - x)),.slice a3 (nl (y - x)) c3]) (by simp [results,Tryz.results98,go_sem,q1,q2,q3,q4,q5,q6,p1,p2,p3,p4,p5,p6]) rfl ?_
 exact⟨_,rfl,hm2.store2 _ _ (v0:=.bool false) (v1:=.slice none 0 0) (by rw [p3,q3];simp [go_sem]) (by rw [p3,q3];simp [go_sem]) (noInt_bool _) (noInt_slice _ _ _),(HB2.out.setCell (by simp;omega) _).setCell (by simp;omega) _⟩
set_option maxHeartbeats 2000000 in
theorem add_ft_ge (u v:Value) (s t:Bool) (x y:Nat) (w:World) (hu:Mag w u x) (hv:Mag w v y) (hle:y≤x) (bx:nl x≤549755813888) (b_y:nl y≤549755813888) :
  Calls Tryz.prog 98 #[.agg #[.bool false,u],.agg #[.bool true,v]] w fun e w'=>∃ r,e = .returned (.agg #[.bool (false && decide (0<x - y)),r])∧Mag w' r (x - y)∧Below w.heap.size w w':=by
 have HU:=Lib.hid hu
 have HV:=Lib.hid hv
 obtain⟨a1,b1,o1,c1,rfl,i1⟩:=hu
 obtain⟨a2,b2,o2,c2,rfl,i2⟩:=hv
 have HB:Hid (Below w.heap.size w (((w.alloc (Obj.cells #[Value.bool false,Value.slice a1 (nl x) c1] 90)).alloc (Obj.cells #[Value.bool true,Value.slice a2 (nl y) c2] 90)).alloc (Obj.cells #[.bool false,.slice none 0 0] 90))):=boxes3 w _ _ _
 have HLE:=Lib.hid hle
 have HCM:=Lib.hid (fun W=>compare_any (.slice a1 (nl x) c1) (.slice a2 (nl y) c2) x y W)
 have hcm:0≤cmpN x y:=by unfold cmpN;rw [if_neg (by omega)];split <;> omega
 clear hle
 go_enter Tryz.func98,Tryz.ntmps98
 go_wp2_with (go_at_call 105;refine (HCM.out _ (HU.out.mono HB.out (Nat.le_refl _)) (HV.out.mono HB.out (Nat.le_refl _)) (by omega) (by omega)).mono ?_;rintro e w' ⟨rfl,nd,rfl⟩)
 go_region_held3 (fun w'=>w'.cell? ⟨w.heap.size,0,none⟩=some (.bool false)∧w'.cell? ⟨w.heap.size,1,none⟩=some (.slice a1 (nl x) c1)∧w'.cell? ⟨w.heap.size+1,1,none⟩=some (.slice a2 (nl y) c2)) (go_keep)
  (first
   | (go_at_call 127;refine (minus_any _ _ x y _ (((HU.out.mono HB.out (Nat.le_refl _)).drawn (Drawn.of _ nd)).drew) (((HV.out.mono HB.out (Nat.le_refl _)).drawn (Drawn.of _ nd)).drew) HLE.out (by omega)).mono ?_;rintro e w1 ⟨r,rfl,⟨a3,b3,o3,c3,rfl,i3⟩,hb⟩;obtain⟨q1,q2,q3,q4,q5,q6,hz1,HB1⟩:=kept3 (w:=w) hb (by simp) ((below_drawN HB.out nd).drew))
   | (go_at_call 106;refine (made_any _ _ (x - y) _ ⟨a3,b3,o3,c3,rfl,i3⟩).mono ?_;rintro e w2 ⟨rfl,hm2,hb2⟩;obtain⟨p1,p2,p3,p4,p5,p6,hz2,HB2⟩:=kept3 (w:=w) hb2 hz1 HB1.out))
 go_wp2
 refine bodyPost_ret (v:=.agg #[.bool (false && decide (0<x - y)),.slice a3 (nl (x - y)) c3]) (by simp [results,Tryz.results98,go_sem,q1,q2,q3,q4,q5,q6,p1,p2,p3,p4,p5,p6]) rfl ?_
 exact⟨_,rfl,hm2.store2 _ _ (v0:=.bool false) (v1:=.slice none 0 0) (by rw [p3,q3];simp [go_sem]) (by rw [p3,q3];simp [go_sem]) (noInt_bool _) (noInt_slice _ _ _),(HB2.out.setCell (by simp;omega) _).setCell (by simp;omega) _⟩
set_option maxHeartbeats 2000000 in
theorem add_ft_lt (u v:Value) (s t:Bool) (x y:Nat) (w:World) (hu:Mag w u x) (hv:Mag w v y) (hle:x<y) (bx:nl x≤549755813888) (b_y:nl y≤549755813888) :
  Calls Tryz.prog 98 #[.agg #[.bool false,u],.agg #[.bool true,v]] w fun e w'=>∃ r,e = .returned (.agg #[.bool (true && decide (0<y - x)),r])∧Mag w' r (y - x)∧Below w.heap.size w w':=by
 have HU:=Lib.hid hu
 have HV:=Lib.hid hv
 obtain⟨a1,b1,o1,c1,rfl,i1⟩:=hu
 obtain⟨a2,b2,o2,c2,rfl,i2⟩:=hv
 have HB:Hid (Below w.heap.size w (((w.alloc (Obj.cells #[Value.bool false,Value.slice a1 (nl x) c1] 90)).alloc (Obj.cells #[Value.bool true,Value.slice a2 (nl y) c2] 90)).alloc (Obj.cells #[.bool false,.slice none 0 0] 90))):=boxes3 w _ _ _
 have HLE:=Lib.hid hle
 have HCM:=Lib.hid (fun W=>compare_any (.slice a1 (nl x) c1) (.slice a2 (nl y) c2) x y W)
 have hcm:cmpN x y<0:=by unfold cmpN;rw [if_pos (by omega)];omega
 clear hle
 go_enter Tryz.func98,Tryz.ntmps98
 go_wp2_with (go_at_call 105;refine (HCM.out _ (HU.out.mono HB.out (Nat.le_refl _)) (HV.out.mono HB.out (Nat.le_refl _)) (by omega) (by omega)).mono ?_;rintro e w' ⟨rfl,nd,rfl⟩)
 go_region_held3 (fun w'=>w'.cell? ⟨w.heap.size+1,0,none⟩=some (.bool true)∧w'.cell? ⟨w.heap.size+1,1,none⟩=some (.slice a2 (nl y) c2)∧w'.cell? ⟨w.heap.size,1,none⟩=some (.slice a1 (nl x) c1)) (go_keep)
  (first
   | (go_at_call 127;refine (minus_any _ _ y x _ (((HV.out.mono HB.out (Nat.le_refl _)).drawn (Drawn.of _ nd)).drew) (((HU.out.mono HB.out (Nat.le_refl _)).drawn (Drawn.of _ nd)).drew) (Nat.le_of_lt HLE.out) (by omega)).mono ?_;rintro e w1 ⟨r,rfl,⟨a3,b3,o3,c3,rfl,i3⟩,hb⟩;obtain⟨q1,q2,q3,q4,q5,q6,hz1,HB1⟩:=kept3 (w:=w) hb (by simp) ((below_drawN HB.out nd).drew))
   | (go_at_call 106;refine (made_any _ _ (y - x) _ ⟨a3,b3,o3,c3,rfl,i3⟩).mono ?_;rintro e w2 ⟨rfl,hm2,hb2⟩;obtain⟨p1,p2,p3,p4,p5,p6,hz2,HB2⟩:=kept3 (w:=w) hb2 hz1 HB1.out))
 go_wp2
 refine bodyPost_ret (v:=.agg #[.bool (true && decide (0<y - x)),.slice a3 (nl (y - x)) c3]) (by simp [results,Tryz.results98,go_sem,q1,q2,q3,q4,q5,q6,p1,p2,p3,p4,p5,p6]) rfl ?_
 exact⟨_,rfl,hm2.store2 _ _ (v0:=.bool false) (v1:=.slice none 0 0) (by rw [p3,q3];simp [go_sem]) (by rw [p3,q3];simp [go_sem]) (noInt_bool _) (noInt_slice _ _ _),(HB2.out.setCell (by simp;omega) _).setCell (by simp;omega) _⟩
end Go.Proofs.YtgmopcncbpdniaaGreat
