import Derived.Test.YtgmopcncbpdniaaGreatJFitG
import Derived.Test.YtgmopcncbpdniaaGreatJCmn
import Derived.Test.YtgmopcncbpdniaaGreatJClr
import Derived.Test.YtgmopcncbpdniaaGreatJQDiv
import Derived.Test.YtgmopcncbpdniaaGreatJTakesE
import Derived.Test.YtgmopcncbpdniaaGreatJRNum
import Derived.Test.YtgmopcncbpdniaaGreatJMclr
set_option linter.unusedVariables false
set_option linter.unusedSimpArgs false
namespace Go.Proofs.YtgmopcncbpdniaaGreat
open Go.RowKit
attribute [local go_sem ↓] Go.wp_at_zero Go.wp_at_succ
def OKT (s:ByteArray):Prop:=∃ q:Rat,FracTxt s q.num q.den∧q.num.natAbs<10 ^ 40∧q.den<10 ^ 40
set_option maxHeartbeats 4000000 in
set_option maxRecDepth 100000 in
theorem dclears_gen (vc vd vs:Value) (n:Nat) (cash:Nat→Int) (m:Nat→Nat) (d:Nat→Nat→Int) (q:Nat→Rat) (ss:Nat→ByteArray) (b0 r:Bool) (hb0:b0=true↔∀ j,j<n→OKT (ss j)) (hr:r=true↔∀ i,i<n→GdQ n cash d q i) (w:World) (hc:Ints w vc n cash) (hm:Mat w vd n m d) (hD:Debts n m d) (hC:∀ i,i<n→0≤cash i∧cash i≤1000) (hd:∀ i j,0≤d i j)
  (hs:Strs w vs n ss) (ht:∀ j,j<n→OKT (ss j)→FracTxt (ss j) (q j).num (q j).den∧(q j).num.natAbs<10 ^ 40∧(q j).den<10 ^ 40) (hz:∀ j,j<n→(ss j).size≤4000) :
  Calls Tryz.prog 35 #[vc,vd,vs] w fun e w'=>e = .returned (.tuple #[.bool (b0 && r),.int .i64 (if b0=true then 0 else 2)])∧Below w.heap.size w w':=by
 obtain⟨i0,hi,hz0,hz1,hz2⟩:=info_parts infoR
 have HC:=Lib.hid hc
 have HD:=Lib.hid hm
 have HR:=Lib.hid (rng_of hD hC hd)
 have h0:0<n:=hD.1
 have h8:n≤8:=hD.2.1
 have HDB:=Lib.hid hD
 have HCB:=Lib.hid hC
 have HT:=Lib.hid ht
 have HZ:=Lib.hid hz
 have HB0:=Lib.hid hb0
 have HRR:=Lib.hid hr
 have HSS:=Lib.hid hs
 obtain⟨ca,cb,co,cc,rfl,hcs⟩:=hc
 obtain⟨da,db,d_o,dc,ra,rb,ro,rc,rfl,hdm⟩:=hm
 obtain⟨sa,sb,so,sc,rfl,hs⟩:=hs
 have HS:=Lib.hid hs
 have enn:((n:Int) != (n:Int))=false:=by simp
 clear hcs hdm hD hC hd hr ht hz hb0 hs
 go_enter Tryz.func35,Tryz.ntmps35
 go_upto_region 4 with (go_at_call 38;(with_reducible refine (read_ok _ _ n cash m d _ HC.out HD.out HDB.out HCB.out).mono ?_);rintro e w1 ⟨b,vt,rfl,hm,hb1⟩;have HM:=Lib.hid hm;have KW:=Lib.hid hb1;clear hm hb1)
 have c0:=HM.out.c0
 have VL0:=Lib.hid (Below.refl w1.heap.size w1)
 have BR0:Hid (BRow w1 w1.heap.size (.slice none 0 0) 0 q 4000 []):=Lib.hid (BRow.nil _ _ _ _)
 go_wp2
 go_loopw [10,34] (fun v10 v34 wr=>∃ k:Nat,k≤n∧v34 = .int .i64 (k:Nat)∧∃ va vk xs,v10 = .slice va k vk∧Hid (∀ j,j<k→OKT (ss j))∧Hid (BRow wr w1.heap.size (.slice va k vk) k q 4000 xs)∧Hid (Below w1.heap.size w1 wr)) (fun _ v34 _=>n - (intOf v34).toNat)
 case atStart=>exact⟨0,by omega,rfl,none,0,[],rfl,Lib.hid (fun j hj=>by omega),BR0,VL0⟩
 case round=>
  clear VL0 BR0
  obtain⟨k,hk,rfl,va,vk,xs,rfl,HOK,BR,VL⟩:=hrel
  by_cases h:k<n
  ·have x0:=(HS.out.mono (KW.out.trans (VL.out.mono KW.out.size)) (Nat.le_refl _)).cell k h
   have ix:=fun W=>ixN HS.out k sc h W
   by_cases hok:OKT (ss k)
   ·obtain⟨g0,g1,g2⟩:=HT.out k h hok
    have G0:=Lib.hid g0
    have M1:=Lib.hid (maxD_pow (by decide) g1)
    have M2:=Lib.hid (maxD_pow (by decide) g2)
    have G1:=Lib.hid g1
    have G2:=Lib.hid g2
    clear g0 g1 g2
    go_upto_region 11 with (go_at_call 65;(with_reducible refine (nparse_txt _ (q k) _ G0.out M1.out M2.out).mono ?_);rintro e w2 ⟨r2,rfl,hr2,hb2⟩;obtain⟨s2,a2,n2,c2,b2,m2,d2,rfl,K2⟩:=hr2.shape;clear hr2;have BR:=Lib.hid (BR.out.below hb2);have VL:=Lib.hid (VL.out.trans (hb2.mono VL.out.size));clear hb2)
    have K3:=Lib.hid (boxes1 w2 (.cells #[.bool s2,.slice a2 n2 c2,.bool false,.slice b2 m2 d2] 92))
    have RN:=Lib.hid (own4_new w2 w2.heap.size rfl (.bool s2) (.slice a2 n2 c2) (.bool false) (.slice b2 m2 d2) 92)
    have K2:=Lib.hid (K2.out.mono K3.out (Nat.le_refl _))
    have BR:=Lib.hid (BR.out.below K3.out)
    have VL:=Lib.hid (VL.out.trans (K3.out.mono VL.out.size))
    generalize w2.alloc (.cells #[.bool s2,.slice a2 n2 c2,.bool false,.slice b2 m2 d2] 92)=w3 at *
    clear K3
    have y0:=RN.out.c0;have y1:=RN.out.c1;have y2:=RN.out.c2;have y3:=RN.out.c3
    go_wp2_with (first
     | (go_at_call 66;(with_reducible refine (fits_any _ (q k) 4000 _ K2.out (by decide) G1.out G2.out).mono ?_);rintro e w4 ⟨rfl,hb4⟩;have K2:=Lib.hid (K2.out.mono hb4 (Nat.le_refl _));have RN:=Lib.hid (RN.out.below hb4 RN.out.lt);clear y0 y1 y2 y3;have y0:=RN.out.c0;have y1:=RN.out.c1;have y2:=RN.out.c2;have y3:=RN.out.c3;have BR:=Lib.hid (BR.out.below hb4);have VL:=Lib.hid (VL.out.trans (hb4.mono VL.out.size));clear hb4;have HA3:Hid (w1.heap.size≤(w4.alloc (.cells #[.bool s2,.slice a2 n2 c2,.bool false,.slice b2 m2 d2] 92)).heap.size):=Lib.hid (by have:=VL.out.size;simp;omega);have BRA:=Lib.hid (BR.out.alloc (.cells #[.bool s2,.slice a2 n2 c2,.bool false,.slice b2 m2 d2] 92));have NEW:=Lib.hid (own4_rd (own4_new w4 w4.heap.size rfl (.bool s2) (.slice a2 n2 c2) (.bool false) (.slice b2 m2 d2) 92)))
     | (at_builtin;go_loud (refine wpList_append_kind rfl (.tmp 50) (.tmp 52) 73 rfl w1.heap.size 92 i0 (.agg #[.bool false,.slice none 0 0,.bool false,.slice none 0 0]) 4 64 Tryz.underlying73 hi hz0 hz1 hz2 rfl (by decide) (.slice va k vk) k xs rfl BRA.out.own BRA.out.kind (noLimb_4 _ _ _ _ _ _ _ _) ⟨w4.heap.size,0,none⟩ 1 1 [.bool s2,.slice a2 n2 c2,.bool false,.slice b2 m2 d2] rfl rfl (cells4' NEW.out) (one4' _ _ _ _ rfl rfl rfl rfl) (noLimb_4 _ _ _ _ _ _ _ _) (by unfold maxLen;omega) (by omega) HA3.out (by omega) ?_;intro v' w7 hown hgrow hblk hkind;obtain⟨va',vk',rfl⟩:=own_shape hown;have HOWN:=Lib.hid hown;have HGROW:=Lib.hid hgrow;have HBLK:=Lib.hid hblk;have HKIND:=Lib.hid hkind;clear hown hgrow hblk hkind)))
    have BR7:=Lib.hid (BRA.out.push (K2.out.mono (boxes1 w4 _) (Nat.le_refl _)) rfl HGROW.out HOWN.out HKIND.out)
    have VL7:=Lib.hid ((VL.out.alloc VL.out.size (.cells #[.bool s2,.slice a2 n2 c2,.bool false,.slice b2 m2 d2] 92)).grown HGROW.out HA3.out (fun kk e=>(BRA.out.own.lt kk e).1))
    go_roundw
    case rel=>exact⟨k+1,by omega,by go_num,va',vk',_,rfl,Lib.hid (fun j hj=>by
     rcases Nat.lt_or_ge j k with e | e
     ·exact HOK.out j e
     ·rw [show j=k by omega];exact hok),BR7,VL7⟩
    case measure=>simp [intOf];omega
   ·obtain rfl:b0=false:=by
     rcases Bool.eq_false_or_eq_true b0 with e | e
     ·exact absurd (HB0.out.1 e k h) hok
     ·exact e
    have ZK:=Lib.hid (HZ.out k h)
    by_cases hg:GoodT (ss k)
    ·obtain⟨p,hp⟩:=hg
     have HP:=Lib.hid hp
     have FF:Hid ((decide (p.num.natAbs<10 ^ 40) && decide (p.den<10 ^ 40))=false):=Lib.hid (by
      rcases Bool.eq_false_or_eq_true (decide (p.num.natAbs<10 ^ 40) && decide (p.den<10 ^ 40)) with e | e
      ·exfalso
       rw [Bool.and_eq_true,decide_eq_true_eq,decide_eq_true_eq] at e
       exact hok ⟨p,hp,e.1,e.2⟩
      ·exact e)
     clear hok hp
     go_upto_region 11 with (go_at_call 65;(with_reducible refine (npar_good _ p _ ZK.out HP.out).mono ?_);rintro e w2 ⟨r2,rfl,hr2,hb2⟩;obtain⟨s2,a2,n2,c2,b2,m2,d2,rfl,K2⟩:=hr2.shape;clear hr2;have VL:=Lib.hid (VL.out.trans (hb2.mono VL.out.size));clear hb2)
     have K3:=Lib.hid (boxes1 w2 (.cells #[.bool s2,.slice a2 n2 c2,.bool false,.slice b2 m2 d2] 92))
     have RN:=Lib.hid (own4_new w2 w2.heap.size rfl (.bool s2) (.slice a2 n2 c2) (.bool false) (.slice b2 m2 d2) 92)
     have VL:=Lib.hid (VL.out.trans (K3.out.mono VL.out.size))
     have K2:=Lib.hid (K2.out.mono K3.out (Nat.le_refl _))
     generalize w2.alloc (.cells #[.bool s2,.slice a2 n2 c2,.bool false,.slice b2 m2 d2] 92)=w3 at *
     clear K3
     have y0:=RN.out.c0;have y1:=RN.out.c1;have y2:=RN.out.c2;have y3:=RN.out.c3
     go_wp2_with (go_at_call 66;(with_reducible refine (fits_gen _ p 4000 _ _ _ K2.out (by decide) rfl rfl).mono ?_);rintro e w4 ⟨rfl,hb4⟩;rw [FF.out];have VL:=Lib.hid (VL.out.trans (hb4.mono VL.out.size));clear hb4)
     go_ret2
     exact⟨rfl,KW.out.trans (VL.out.mono KW.out.size)⟩
    ·have HG:=Lib.hid hg
     clear hok hg
     go_upto_region 11 with (go_at_call 65;(with_reducible refine (npar_not _ _ ZK.out HG.out).mono ?_);rintro e w2 ⟨s2,a2,n2,c2,b2,m2,d2,rfl,hb2⟩;have VL:=Lib.hid (VL.out.trans (hb2.mono VL.out.size));clear hb2)
     have K3:=Lib.hid (boxes1 w2 (.cells #[.bool s2,.slice a2 n2 c2,.bool false,.slice b2 m2 d2] 92))
     have RN:=Lib.hid (own4_new w2 w2.heap.size rfl (.bool s2) (.slice a2 n2 c2) (.bool false) (.slice b2 m2 d2) 92)
     have VL:=Lib.hid (VL.out.trans (K3.out.mono VL.out.size))
     generalize w2.alloc (.cells #[.bool s2,.slice a2 n2 c2,.bool false,.slice b2 m2 d2] 92)=w3 at *
     clear K3
     go_wp2
     go_ret2
     exact⟨rfl,KW.out.trans (VL.out.mono KW.out.size)⟩
  ·obtain rfl:k=n:=by omega
   obtain rfl:b0=true:=HB0.out.2 HOK.out
   obtain⟨g,cap,hge,hgb,RB⟩:=BR.out.row h0
   injection hge with e1 e2 e3
   subst e1 e3
   have RB:=Lib.hid RB
   have KW:=Lib.hid (KW.out.trans (VL.out.mono KW.out.size))
   have HM:=Lib.hid (HM.out.mono VL.out (Nat.le_refl _))
   go_wp2_with (go_at_call 67;go_loud ((with_reducible refine (mclr_any b k vk g cash d _ _ _ q 4000 r HRR.out _ HM.out h8 HR.out RB.out.rats (by decide) (by decide)).mono ?_));rintro e w3 ⟨rfl,hb3⟩;have KW:=Lib.hid (KW.out.trans (hb3.mono KW.out.size));clear hb3)
   go_ret2
   exact⟨rfl,KW.out⟩
end Go.Proofs.YtgmopcncbpdniaaGreat
namespace Go.Proofs.YtgmopcncbpdniaaGreat
open Go.RowKit
attribute [local go_sem ↓] Go.wp_at_zero Go.wp_at_succ
set_option maxHeartbeats 1000000 in
set_option maxRecDepth 100000 in
theorem clears_no (vc vd vs:Value) (nc n:Nat) (cash:Nat→Int) (m:Nat→Nat) (d:Nat→Nat→Int) (w:World) (hc:Ints w vc nc cash) (hd:Mat w vd n m d) (b1:nc≤1048576) (b2:n≤1048576) (b3:∀ i,i<n→m i≤1048576) (hno:¬ Mkt nc n cash m d) :
  Calls Tryz.prog 35 #[vc,vd,vs] w fun e w'=>e = .returned (.tuple #[.bool false,.int .i64 1])∧Below w.heap.size w w':=by
 have HC:=Lib.hid hc
 have HD:=Lib.hid hd
 have HN:=Lib.hid hno
 have B3:=Lib.hid b3
 clear hc hd hno b3
 go_enter Tryz.func35,Tryz.ntmps35
 go_wp2_with (go_at_call 38;(with_reducible refine (read_no _ _ nc n cash m d _ HC.out HD.out b1 b2 B3.out HN.out).mono ?_);rintro e w1 ⟨rfl,hb1⟩)
 go_ret2
 exact⟨rfl,hb1⟩
set_option maxHeartbeats 1000000 in
set_option maxRecDepth 100000 in
theorem clears_len (vc vd:Value) (sa:Option Addr) (n l sc:Nat) (cash:Nat→Int) (m:Nat→Nat) (d:Nat→Nat→Int) (w:World) (hc:Ints w vc n cash) (hm:Mat w vd n m d) (hD:Debts n m d) (hC:∀ i,i<n→0≤cash i∧cash i≤1000) (hl:l≠n) :
  Calls Tryz.prog 35 #[vc,vd,.slice sa l sc] w fun e w'=>e = .returned (.tuple #[.bool false,.int .i64 2])∧Below w.heap.size w w':=by
 have HC:=Lib.hid hc
 have HD:=Lib.hid hm
 have HDB:=Lib.hid hD
 have HCB:=Lib.hid hC
 have enn:((l:Int) != (n:Int))=true:=by simp;omega
 obtain⟨ca,cb,co,cc,rfl,hcs⟩:=hc
 obtain⟨da,db,d_o,dc,ra,rb,ro,rc,rfl,hdm⟩:=hm
 clear hcs hdm hD hC
 go_enter Tryz.func35,Tryz.ntmps35
 go_upto_region 4 with (go_at_call 38;(with_reducible refine (read_ok _ _ n cash m d _ HC.out HD.out HDB.out HCB.out).mono ?_);rintro e w1 ⟨b,vt,rfl,hm,hb1⟩;have HM:=Lib.hid hm;have KW:=Lib.hid hb1;clear hm hb1)
 have c0:=HM.out.c0
 go_wp2
 go_ret2
 exact⟨rfl,KW.out⟩
theorem shF_step {f:Nat→Nat} {n o:Nat} (h0:∀ i,i≤o→shF f i≤n) (hz:shF f o=0) (k:Nat) (hk:k≤n) (hd:∀ i,i<k→f (o+i)≠47∧f (o+i)≠45):∀ i,i≤o+k→shF f i≤n:=fun i hi=>by
 rcases Nat.lt_or_ge i o with e | e
 ·exact h0 i (by omega)
 ·obtain⟨j,rfl⟩:∃ j,i=o+j:=⟨i - o,by omega⟩
  have:=shF_run o j (fun i hi2=>hd i (by omega))
  omega
theorem len_of {x L n:Nat} (h:Len10 x L) (hn:1≤n) (hx:x<10 ^ n):L≤n:=h.le hn hx
theorem sh_back {s:ByteArray} {p:Int} {d L n:Nat} {f:Nat→Nat} (hs:FracTxt s p d) (hb:Bts s L f) (hn:1≤n) (hx:p.natAbs<10 ^ n) (hd:d<10 ^ n):∀ i,i≤L→shF f i≤n:=by
 obtain⟨t,⟨Lt,hLt,hts,htb⟩,hcase⟩:=hs
 have bt:Bts t Lt (fun i=>48+d10 p.natAbs (Lt - 1 - i)):=⟨hts,htb⟩
 have l1:=len_of hLt hn hx
 have pos:∀ {o:Nat},(∀ i,i<Lt→f (o+i)=48+d10 p.natAbs (Lt - 1 - i))→∀ i,i<Lt→f (o+i)≠47∧f (o+i)≠45:=fun g i hi=>by rw [g i hi];exact txt_no _ _ _
 have st0:∀ i,i≤0→shF f i≤n:=fun i hi=>by rw [show i=0 by omega];exact Nat.zero_le _
 have one:f 0=45→shF f 1=0:=fun h=>by simp only [shF];rw [if_neg (by rw [h];decide),if_pos h]
 have st1:f 0=45→∀ i,i≤1→shF f i≤n:=fun h i hi=>by
  rcases Nat.lt_or_ge i 1 with e | e
  ·rw [show i=0 by omega];exact Nat.zero_le _
  ·rw [show i=1 by omega,one h];exact Nat.zero_le _
 rcases hcase with ⟨rfl,hs⟩ | ⟨d1,u,⟨Lu,hLu,hus,hub⟩,hs⟩
 ·by_cases hneg:p<0
  ·rw [if_pos hneg] at hs
   obtain⟨rfl,hf⟩:=bts_fun hb (hs ▸ bts_append (bts_one 45) bt)
   have g:∀ i,i<Lt→f (1+i)=48+d10 p.natAbs (Lt - 1 - i):=fun i hi=>by
    rw [hf _ (by omega)];(try dsimp only);rw [if_neg (by omega),show 1+i - 1=i by omega]
   have f0:f 0=45:=by rw [hf 0 (by omega)];(try dsimp only);rw [if_pos (by omega)];rfl
   exact shF_step (st1 f0) (one f0) Lt l1 (pos g)
  ·rw [if_neg hneg] at hs
   subst hs
   obtain⟨rfl,hf⟩:=bts_fun hb bt
   have:=shF_step st0 rfl L l1 (pos (fun i hi=>by rw [Nat.zero_add];exact hf i hi))
   rw [Nat.zero_add] at this
   exact this
 ·have bu:Bts u Lu (fun i=>48+d10 d (Lu - 1 - i)):=⟨hus,hub⟩
  have l2:=len_of hLu hn hd
  have btu:=bts_append bt (bts_append (bts_one 47) bu)
  have two:∀ o,(∀ i,i≤o→shF f i≤n)→shF f o=0→(∀ i,i<Lt→f (o+i)≠47∧f (o+i)≠45)→f (o+Lt)=47→(∀ i,i<Lu→f (o+Lt+1+i)≠47∧f (o+Lt+1+i)≠45)→∀ i,i≤o+Lt+1+Lu→shF f i≤n:=fun o q0 q1 q2 q3 q4=>by
   have a:=shF_step q0 q1 Lt l1 q2
   have z:shF f (o+Lt+1)=0:=by simp only [shF];rw [if_pos q3]
   exact shF_step (o:=o+Lt+1) (fun i hi=>by
    rcases Nat.lt_or_ge i (o+Lt+1) with e | e
    ·exact a i (by omega)
    ·rw [show i=o+Lt+1 by omega,z];exact Nat.zero_le _) z Lu l2 q4
  by_cases hneg:p<0
  ·rw [if_pos hneg,ByteArray.append_assoc] at hs
   obtain⟨rfl,hf⟩:=bts_fun hb (hs ▸ bts_append (bts_one 45) btu)
   have g:∀ i,i<Lt→f (1+i)=48+d10 p.natAbs (Lt - 1 - i):=fun i hi=>by
    rw [hf _ (by omega)];(try dsimp only);rw [if_neg (by omega),show 1+i - 1=i by omega,if_pos hi]
   have f0:f 0=45:=by rw [hf 0 (by omega)];(try dsimp only);rw [if_pos (by omega)];rfl
   have:=two 1 (st1 f0) (one f0) (pos g) (by rw [hf _ (by omega)];(try dsimp only);rw [if_neg (by omega),if_neg (by omega),if_pos (by omega)];rfl) (fun i hi=>by rw [hf _ (by omega)];(try dsimp only);rw [if_neg (by omega),if_neg (by omega),if_neg (by omega)];exact txt_no _ _ _)
   rw [show 1+Lt+1+Lu=1+(Lt+(1+Lu)) by omega] at this
   exact this
  ·rw [if_neg hneg] at hs
   obtain⟨rfl,hf⟩:=bts_fun hb (hs ▸ btu)
   have g:∀ i,i<Lt→f (0+i)=48+d10 p.natAbs (Lt - 1 - i):=fun i hi=>by
    rw [hf _ (by omega)];(try dsimp only);rw [if_pos (by omega),Nat.zero_add]
   have:=two 0 st0 rfl (pos g) (by rw [hf _ (by omega)];(try dsimp only);rw [if_neg (by omega),if_pos (by omega)];rfl) (fun i hi=>by rw [hf _ (by omega)];(try dsimp only);rw [if_neg (by omega),if_neg (by omega)];exact txt_no _ _ _)
   rw [show 0+Lt+1+Lu=Lt+(1+Lu) by omega] at this
   exact this
end Go.Proofs.YtgmopcncbpdniaaGreat
namespace Go.Proofs.YtgmopcncbpdniaaGreat
open Go.RowKit
structure Pays (n:Nat) (cash:Nat→Int) (d:Nat→Nat→Int) (F:Nat→Bool) (p:Nat→Rat):Prop where
 rnd:RndJ n (cashQ cash) (totQ n d) (shQ n d) F
 sol:SolF n (cashQ cash) (totQ n d) (shQ n d) F p
 clr:ClrQ n (cashQ cash) (totQ n d) (shQ n d) p
 no:∀ i,i<n→F i=false→totQ n d i≤hasP n (cashQ cash) (shQ n d) p i
theorem last_no {n:Nat} {cash:Nat→Int} {d:Nat→Nat→Int} {ps:(Nat→Bool)→Nat→Rat} {q:Nat} (h:Last n cash d ps q):∀ i,i<n→NW n cash d ps q i=false:=fun i hi=>by
 rcases Bool.eq_false_or_eq_true (NW n cash d ps q i) with e | e
 ·have h1:=(frL_rank _ n i hi e).1
  have h2:=h.zero
  unfold rwM at h2
  omega
 ·exact e
theorem pays_of {n:Nat} {cash:Nat→Int} {d:Nat→Nat→Int} {ps:(Nat→Bool)→Nat→Rat} {q:Nat} (hR:Rng n cash d) (hd:∀ i j,0≤d i j) (hps:PsOK n cash d ps) (h:Last n cash d ps q):Pays n cash d (FS n cash d ps q) (PS n cash d ps q):=by
 obtain⟨x,hx⟩:=ps_rdy hps hR hd q
 have hJ:=rnd_all hps hR hd q
 have hno:∀ i,i<n→FS n cash d ps q i=false→totQ n d i≤hasP n (cashQ cash) (shQ n d) (PS n cash d ps q) i:=fun i hi hF=>by
  have h1:=last_no h i hi
  refine Rat.not_lt.1 (fun hlt=>?_)
  rw [nw_iff,hF,decide_eq_true hlt] at h1
  cases h1
 exact⟨hJ,hx.sol,sol_clears (mktQ_of hR hd) hJ hx.sol hno,hno⟩
end Go.Proofs.YtgmopcncbpdniaaGreat
namespace Go.Proofs.YtgmopcncbpdniaaGreat
variable {n:Nat} {cash:Nat→Int} {d:Nat→Nat→Int} {ps:(Nat→Bool)→Nat→Rat}
theorem cmpR_lt (a b:Rat):decide (cmpR a b<0)=decide (a<b):=by
 unfold cmpR
 by_cases h:a<b
 ·rw [if_pos h];simp [h]
 ·rw [if_neg h]
  split <;> simp [h]
end Go.Proofs.YtgmopcncbpdniaaGreat
namespace Go.Proofs.YtgmopcncbpdniaaGreat
open Go.RowKit
attribute [local go_sem ↓] Go.wp_at_zero Go.wp_at_succ
def dueQ (n:Nat) (cash:Nat→Int) (d:Nat→Nat→Int) (q:Nat→Rat) (i:Nat):Rat:=if hasP n (cashQ cash) (shQ n d) q i<totQ n d i then hasP n (cashQ cash) (shQ n d) q i else totQ n d i
set_option maxHeartbeats 4000000 in
set_option maxRecDepth 100000 in
theorem due_any (vc vd vp:Value) (n i:Nat) (cash:Nat→Int) (d:Nat→Nat→Int) (q:Nat→Rat) (K:Nat) (w:World) (hc:Ints w vc n cash) (hm:Mat w vd n (fun _=>n) d) (hp:VSl w vp n q K) (hi:i<n) (hn:n≤8) (hC:∀ i,i<n→0≤cash i∧cash i≤1000) (hd:∀ i j,0≤d i j) (hR:∀ i j,i<n→j<n→d i j≤1000) (hT:∀ i,i<n→sumF (d i) n≤100000) (hK5:5≤K) (hK:K≤100000000) :
  Calls Tryz.prog 63 #[vc,vd,vp,.int .i64 (i:Nat)] w fun ex w'=>∃ r,ex = .returned r∧QV w' r (dueQ n cash d q i) (1024*(K+1)+1)∧Below w.heap.size w w':=by
 have HDM:=Lib.hid hm
 have HP:=Lib.hid hp
 obtain⟨da,b,o,dc,ra,rb,ro,rc,rfl,hdm⟩:=hm
 obtain⟨ca,cb,co,cc,rfl,hcs⟩:=hc
 have HM:=Lib.hid hdm
 have HCS:=Lib.hid hcs
 have HD0:=Lib.hid hd
 have HR0:=Lib.hid hR
 have HT0:=Lib.hid hT
 have HC0:=Lib.hid hC
 have HROW0:=Lib.hid (hdm.row i hi).ints
 have y0:=hdm.top.cell i hi
 have y1:=hcs.cell i hi
 simp only [ic] at y1
 have HY:=Lib.hid (And.intro y0 y1)
 have HYL:=Lib.hid (And.intro (hdm.top.lt (by omega)) (hcs.lt (by omega)))
 clear hdm hcs hd hR hT hC hp y0 y1
 have RO0:=Lib.hid (own4_new w w.heap.size rfl (.bool false) (.slice none 0 0) (.bool false) (.slice none 0 0) 40)
 have KW0:=Lib.hid (boxes1 w (.cells #[.bool false,.slice none 0 0,.bool false,.slice none 0 0] 40))
 have ixc:=fun W=>ixI HCS.out i cc hi W
 have ixd:=fun W=>ixM HM.out.top i dc hi W
 have HW:Hid (-9223372036854775808≤cash i∧cash i<9223372036854775808):=Lib.hid (by have:=HC0.out i hi;omega)
 have HT:Hid (-9223372036854775808≤sumF (d i) n∧sumF (d i) n<9223372036854775808):=Lib.hid (by have:=HT0.out i hi;have:=sumF_nn (HD0.out i) n;omega)
 have HDT:Hid (∀ l,l<n→-(1099511627776:Int)≤d i l∧d i l≤1099511627776):=Lib.hid (fun l hl=>by have:=HR0.out i l hi hl;have:=HD0.out i l;omega)
 go_enter Tryz.func63,Tryz.ntmps63
 go_wp2_with fail
 have HDM:=Lib.hid (HDM.out.mono KW0.out (Nat.le_refl _))
 have HP:=Lib.hid (HP.out.mono KW0.out (Nat.le_refl _))
 have HROW:=Lib.hid (HROW0.out.mono KW0.out (Nat.le_refl _))
 generalize w.alloc (.cells #[.bool false,.slice none 0 0,.bool false,.slice none 0 0] 40)=wb at *
 have keepR:Hid (∀ w',Below wb.heap.size wb w'→w'.cell? ⟨cb,co+i,none⟩=some (.int .i64 (cash i))∧w'.cell? ⟨b,o+i,none⟩=some (.slice (ra i) n (rc i))):=
  Lib.hid (fun w' hb=>⟨bel1 hb (bel1 KW0.out HY.out.2 HYL.out.2) (Nat.lt_of_lt_of_le HYL.out.2 KW0.out.size),bel1 hb (bel1 KW0.out HY.out.1 HYL.out.1) (Nat.lt_of_lt_of_le HYL.out.1 KW0.out.size)⟩)
 have VL:=Lib.hid (Below.refl wb.heap.size wb).drew
 have HST:StaysB (fun w'=>w'.cell? ⟨cb,co+i,none⟩=some (.int .i64 (cash i))∧w'.cell? ⟨b,o+i,none⟩=some (.slice (ra i) n (rc i))):=fun w1 w2 h hb=>⟨cell_stays h.1 hb,cell_stays h.2 hb⟩
 refine wp_region_box2 HST (d:=9) (d2:=10) (zs:=#[.bool false,.slice none 0 0,.bool false,.slice none 0 0]) (t:=40) (by kernel_rfl) (by kernel_rfl) rfl rfl (fun a w=>by kernel_rfl) (fun a w=>by kernel_rfl) (by kernel_rfl) (fun _ _ _ _ _ h=>h) (keepR.out _ VL.out) (by simp [undef]) (fun hHeld=>?_)
 simp only [List.pop_toArray,List.dropLast_cons_cons,List.dropLast_singleton]
 refine wte_begin [0,1,2,3,5,6,7,10,11,12,13] ?_
 iterate 11 (refine wte (v:=?_) HST rfl (by kernel_rfl) (fun _ _ _ h=>h) (by kernel_rfl) ?_ hHeld ?_;rotate_left;(focus intro w0 hSw;(try dsimp only at hSw);go_simp;all_goals (with_reducible rfl));simp only [Act.put,List.setIfInBounds_toArray,List.set_cons_zero,List.set_cons_succ])
 refine wte_end ?_
 refine wpAnyE_ready (rs:=[4]) (by kernel_rfl) (by simp) (fun we hext=>?_)
 have VL:=Lib.hid (bl_trans VL.out hext)
 have hHeld:=HST _ _ hHeld hext
 refine AllReadyE.cons rfl (fun Kn hKn=>?_) AllReadyE.nil
 go_simp
 (go_at_call 16;(with_reducible refine (qv_whole (cash i) _ HW.out.1 HW.out.2).mono ?_);rintro e w3 ⟨r3,rfl,hr3,hbc⟩;obtain⟨s3,a3,n3,c3,t3,b3,l3,k3,rfl,QK3⟩:=hr3.shape;clear hr3)
 have VL:=Lib.hid (bl_trans VL.out hbc)
 go_wp2_with fail
 refine hKn.out _ _ ?_ ?_ (fun hHeld=>?_)
 ·(try dsimp only);exact keepR.out _ VL.out
 ·exact hbc
 clear hKn Kn hext hbc
 (try simp only [Act.put,List.setIfInBounds_toArray,List.set_cons_zero,List.set_cons_succ])
 refine wpAnyE_ready (rs:=[8]) (by kernel_rfl) (by simp) (fun we hext=>?_)
 have VL:=Lib.hid (bl_trans VL.out hext)
 have hHeld:=HST _ _ hHeld hext
 have QK3:=Lib.hid (QK3.out.mono hext (Nat.le_refl _))
 refine AllReadyE.cons rfl (fun Kn hKn=>?_) AllReadyE.nil
 go_simp
 (go_at_call 19;(with_reducible refine (recv_any _ _ n i d q K _ (HDM.out.mono VL.out (Nat.le_refl _)) (HP.out.mono VL.out (Nat.le_refl _)) hi hn HD0.out HR0.out HT0.out hK5 hK).mono ?_);rintro e w4 ⟨r4,rfl,hr4,hbc⟩;have hr4:=QV.of hr4;obtain⟨s4,a4,n4,c4,t4,b4,l4,k4,rfl,QK4⟩:=hr4.shape;clear hr4)
 have QK3:=Lib.hid (QK3.out.mono hbc (Nat.le_refl _))
 have VL:=Lib.hid (bl_trans VL.out hbc)
 go_wp2_with fail
 refine hKn.out _ _ ?_ ?_ (fun hHeld=>?_)
 ·(try dsimp only);exact keepR.out _ VL.out
 ·exact hbc
 clear hKn Kn hext hbc
 (try simp only [Act.put,List.setIfInBounds_toArray,List.set_cons_zero,List.set_cons_succ])
 refine wpAnyE_ready (rs:=[9]) (by kernel_rfl) (by simp) (fun we hext=>?_)
 have VL:=Lib.hid (bl_trans VL.out hext)
 have hHeld:=HST _ _ hHeld hext
 have QK3:=Lib.hid (QK3.out.mono hext (Nat.le_refl _))
 have QK4:=Lib.hid (QK4.out.mono hext (Nat.le_refl _))
 refine AllReadyE.cons rfl (fun Kn hKn=>?_) AllReadyE.nil
 go_simp
 (go_at_call 18;(with_reducible refine (qv_add _ _ ((cash i:Int):Rat) (sumQ (fun j=>q j*shQ n d j i) n) (512*(K+1)) _ (QK3.out.le (by omega)) QK4.out (by omega)).mono ?_);rintro e w5 ⟨r5,rfl,hr5,hbc⟩;obtain⟨s5,a5,n5,c5,t5,b5,l5,k5,rfl,QK5⟩:=hr5.shape;clear hr5)
 have QK3:=Lib.hid (QK3.out.mono hbc (Nat.le_refl _))
 have QK4:=Lib.hid (QK4.out.mono hbc (Nat.le_refl _))
 have VL:=Lib.hid (bl_trans VL.out hbc)
 go_wp2_with fail
 refine hKn.out _ _ ?_ ?_ (fun hHeld=>?_)
 ·(try dsimp only);exact keepR.out _ VL.out
 ·exact hbc
 clear hKn Kn hext hbc
 (try simp only [Act.put,List.setIfInBounds_toArray,List.set_cons_zero,List.set_cons_succ])
 refine wpAnyE_ready (rs:=[14]) (by kernel_rfl) (by simp) (fun we hext=>?_)
 have VL:=Lib.hid (bl_trans VL.out hext)
 have hHeld:=HST _ _ hHeld hext
 have QK5:=Lib.hid (QK5.out.mono hext (Nat.le_refl _))
 refine AllReadyE.cons rfl (fun Kn hKn=>?_) AllReadyE.nil
 go_simp
 (go_at_call 17;(with_reducible refine (total_any _ n (d i) _ (HROW.out.mono VL.out (Nat.le_refl _)) (by omega) HDT.out).mono ?_);rintro e w6 ⟨rfl,hd6⟩;have hbc:=hd6.below we.heap.size;clear hd6)
 have QK5:=Lib.hid (QK5.out.mono hbc (Nat.le_refl _))
 have VL:=Lib.hid (bl_trans VL.out hbc)
 go_wp2_with fail
 refine hKn.out _ _ ?_ ?_ (fun hHeld=>?_)
 ·(try dsimp only);exact keepR.out _ VL.out
 ·exact hbc
 clear hKn Kn hext hbc
 (try simp only [Act.put,List.setIfInBounds_toArray,List.set_cons_zero,List.set_cons_succ])
 refine wpAnyE_ready (rs:=[15]) (by kernel_rfl) (by simp) (fun we hext=>?_)
 have VL:=Lib.hid (bl_trans VL.out hext)
 have hHeld:=HST _ _ hHeld hext
 have QK5:=Lib.hid (QK5.out.mono hext (Nat.le_refl _))
 refine AllReadyE.cons rfl (fun Kn hKn=>?_) AllReadyE.nil
 go_simp
 (go_at_call 16;(with_reducible refine (qv_whole (sumF (d i) n) _ HT.out.1 HT.out.2).mono ?_);rintro e w7 ⟨r7,rfl,hr7,hbc⟩;obtain⟨s7,a7,n7,c7,t7,b7,l7,k7,rfl,QK7⟩:=hr7.shape;clear hr7)
 have QK5:=Lib.hid (QK5.out.mono hbc (Nat.le_refl _))
 have VL:=Lib.hid (bl_trans VL.out hbc)
 go_wp2_with fail
 refine hKn.out _ _ ?_ ?_ (fun hHeld=>?_)
 ·(try dsimp only);exact keepR.out _ VL.out
 ·exact hbc
 clear hKn Kn hext hbc
 (try simp only [Act.put,List.setIfInBounds_toArray,List.set_cons_zero,List.set_cons_succ])
 refine wpAnyE_done (by kernel_rfl) (fun we hext=>?_) _
 intro x wx hbx hx0 hxz y wy hby hy0 hyz hne
 have hxy:=hne x (by rfl)
 have hyx:=Ne.symm hxy
 have VL:=Lib.hid (bl_trans (bl_trans (bl_trans VL.out hext) hbx) hby)
 have QK5:=Lib.hid (((QK5.out.mono hext (Nat.le_refl _)).mono hbx (Nat.le_refl _)).mono hby (Nat.le_refl _))
 have QK7:=Lib.hid (((QK7.out.mono hext (Nat.le_refl _)).mono hbx (Nat.le_refl _)).mono hby (Nat.le_refl _))
 have OX:=Lib.hid ((own4_block hxz).below hby (own4_block hxz).lt)
 have OY:=Lib.hid (own4_block hyz)
 obtain⟨x0,x1,x2,x3,xf,xl⟩:=OX.out
 obtain⟨z0,z1,z2,z3,zf,zl⟩:=OY.out
 clear hne hext hbx hby hxz hyz ixc ixd
 simp only [Act.put,List.setIfInBounds_toArray,List.set_cons_zero,List.set_cons_succ]
 refine lastQ_step rfl (fun Kn hKn=>?_)
 go_simp
 refine hKn.out _ _ ?_
 clear hKn Kn
 (try simp only [Act.put,List.setIfInBounds_toArray,List.set_cons_zero,List.set_cons_succ])
 refine lastQ_step rfl (fun Kn hKn=>?_)
 go_simp
 refine hKn.out _ _ ?_
 clear hKn Kn
 (try simp only [Act.put,List.setIfInBounds_toArray,List.set_cons_zero,List.set_cons_succ])
 have OY1:=OY.out.set4 x (.bool s5) (.slice a5 n5 c5) (.bool t5) (.slice b5 l5 k5) hxy
 have OX8:=Lib.hid ((OX.out.anew (.bool s5) (.slice a5 n5 c5) (.bool t5) (.slice b5 l5 k5)).set4 y (.bool s7) (.slice a7 n7 c7) (.bool t7) (.slice b7 l7 k7) hyx)
 have OY8:=Lib.hid (OY1.anew (.bool s7) (.slice a7 n7 c7) (.bool t7) (.slice b7 l7 k7))
 have Q5:=Lib.hid ((QK5.out.at4 OX.out (.bool s5) (.slice a5 n5 c5) (.bool t5) (.slice b5 l5 k5)).at4 OY1 (.bool s7) (.slice a7 n7 c7) (.bool t7) (.slice b7 l7 k7))
 have Q7:=Lib.hid ((QK7.out.at4 OX.out (.bool s5) (.slice a5 n5 c5) (.bool t5) (.slice b5 l5 k5)).at4 OY1 (.bool s7) (.slice a7 n7 c7) (.bool t7) (.slice b7 l7 k7))
 have hw0:=RO0.out.lt
 have RO8:=Lib.hid (((RO0.out.below VL.out RO0.out.lt).set4 x (.bool s5) (.slice a5 n5 c5) (.bool t5) (.slice b5 l5 k5) (by omega)).set4 y (.bool s7) (.slice a7 n7 c7) (.bool t7) (.slice b7 l7 k7) (by omega))
 have KW8:=Lib.hid (below_set4q (below_set4q (KW0.out.trans (VL.out.mono KW0.out.size)) (b:=x) (by omega) (.bool s5) (.slice a5 n5 c5) (.bool t5) (.slice b5 l5 k5)) (b:=y) (by omega) (.bool s7) (.slice a7 n7 c7) (.bool t7) (.slice b7 l7 k7))
 clear OY1 QK5 QK7 OX OY x0 x1 x2 x3 xf xl z0 z1 z2 z3 zf zl hHeld HST
 generalize ((((((((wy.setCell ⟨x,0,none⟩ (.bool s5)).setCell ⟨x,1,none⟩ (.slice a5 n5 c5)).setCell ⟨x,2,none⟩ (.bool t5)).setCell ⟨x,3,none⟩ (.slice b5 l5 k5)).setCell ⟨y,0,none⟩ (.bool s7)).setCell ⟨y,1,none⟩ (.slice a7 n7 c7)).setCell ⟨y,2,none⟩ (.bool t7)).setCell ⟨y,3,none⟩ (.slice b7 l7 k7))=w8 at *
 obtain⟨x0,x1,x2,x3,xf,xl⟩:=OX8.out
 obtain⟨z0,z1,z2,z3,zf,zl⟩:=OY8.out
 have HX:Hid (((cash i:Int):Rat)+sumQ (fun j=>q j*shQ n d j i) n=hasP n (cashQ cash) (shQ n d) q i):=Lib.hid rfl
 have HT2:Hid (((sumF (d i) n:Int):Rat)=totQ n d i):=Lib.hid rfl
 rw [HX.out] at Q5
 rw [HT2.out] at Q7
 by_cases hlt:hasP n (cashQ cash) (shQ n d) q i<totQ n d i
 ·have e1:decide (cmpR (hasP n (cashQ cash) (shQ n d) q i) (totQ n d i)<0)=true:=by unfold cmpR;rw [if_pos hlt];rfl
  have HD:Hid (dueQ n cash d q i=hasP n (cashQ cash) (shQ n d) q i):=Lib.hid (by unfold dueQ;rw [if_pos hlt])
  clear hlt
  go_wp2_with fail
  refine (qv_cmp _ _ (hasP n (cashQ cash) (shQ n d) q i) (totQ n d i) (2*(512*(K+1))+1) _ Q5.out (Q7.out.le (by omega)) (by omega)).mono ?_
  rintro e w9 ⟨rfl,hb9⟩
  have OX8:=Lib.hid (OX8.out.below hb9 OX8.out.lt)
  have RO8:=Lib.hid (RO8.out.below hb9 RO8.out.lt)
  have Q5:=Lib.hid (Q5.out.mono hb9 (Nat.le_refl _))
  have KW8:=Lib.hid (KW8.out.trans (hb9.mono KW8.out.size))
  clear x0 x1 x2 x3 xf xl z0 z1 z2 z3 zf zl hb9
  obtain⟨x0,x1,x2,x3,xf,xl⟩:=OX8.out
  go_wp2_with fail
  refine (qv_low _ _ (2*(512*(K+1))+1) _ Q5.out (by omega)).mono ?_
  rintro e w10 ⟨r10,rfl,hr10,hb10⟩
  obtain⟨s3,a3,n3,c3,t3,b3,l3,k3,rfl,QK⟩:=(QV.of hr10).shape
  have RO8:=Lib.hid (RO8.out.below hb10 RO8.out.lt)
  have KW8:=Lib.hid (KW8.out.trans (hb10.mono KW8.out.size))
  clear x0 x1 x2 x3 xf xl hb10 hr10
  obtain⟨x0,x1,x2,x3,xf,xl⟩:=RO8.out
  go_wp2_with fail
  refine bodyPost_ret (v:=.agg #[.bool s3,.slice a3 n3 c3,.bool t3,.slice b3 l3 k3]) (by simp [results,Tryz.results63,go_sem,x0,x1,x2,x3,xf,xl]) rfl ?_
  exact⟨_,rfl,by rw [HD.out];exact (QK.out.le (by omega)).at4 RO8.out _ _ _ _,below_set4q KW8.out (by omega) _ _ _ _⟩
 ·have e1:decide (cmpR (hasP n (cashQ cash) (shQ n d) q i) (totQ n d i)<0)=false:=by rw [cmpR_lt];simpa using hlt
  have HD:Hid (dueQ n cash d q i=totQ n d i):=Lib.hid (by unfold dueQ;rw [if_neg hlt])
  clear hlt
  go_wp2_with fail
  refine (qv_cmp _ _ (hasP n (cashQ cash) (shQ n d) q i) (totQ n d i) (2*(512*(K+1))+1) _ Q5.out (Q7.out.le (by omega)) (by omega)).mono ?_
  rintro e w9 ⟨rfl,hb9⟩
  have OY8:=Lib.hid (OY8.out.below hb9 OY8.out.lt)
  have RO8:=Lib.hid (RO8.out.below hb9 RO8.out.lt)
  have Q7:=Lib.hid (Q7.out.mono hb9 (Nat.le_refl _))
  have KW8:=Lib.hid (KW8.out.trans (hb9.mono KW8.out.size))
  clear x0 x1 x2 x3 xf xl z0 z1 z2 z3 zf zl hb9
  obtain⟨z0,z1,z2,z3,zf,zl⟩:=OY8.out
  obtain⟨x0,x1,x2,x3,xf,xl⟩:=RO8.out
  go_wp2_with fail
  refine bodyPost_ret (v:=.agg #[.bool s7,.slice a7 n7 c7,.bool t7,.slice b7 l7 k7]) (by simp [results,Tryz.results63,go_sem,x0,x1,x2,x3,xf,xl]) rfl ?_
  exact⟨_,rfl,by rw [HD.out];exact (Q7.out.le (by omega)).at4 RO8.out _ _ _ _,below_set4q KW8.out (by omega) _ _ _ _⟩
end Go.Proofs.YtgmopcncbpdniaaGreat
