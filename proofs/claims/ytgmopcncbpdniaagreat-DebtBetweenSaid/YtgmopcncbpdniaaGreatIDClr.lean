import Derived.Test.YtgmopcncbpdniaaGreatINParF
import Derived.Test.YtgmopcncbpdniaaGreatIRefQs
import Derived.Test.YtgmopcncbpdniaaGreatIShelC
import Derived.Test.YtgmopcncbpdniaaGreatIMclr
set_option linter.unusedVariables false
set_option linter.unusedSimpArgs false
namespace Go.Proofs.YtgmopcncbpdniaaGreat
open Go.RowKit
theorem nl_pow {x k:Nat} (h:x<10 ^ k):nl x≤k:=(nl_le x k).2 (Nat.lt_of_lt_of_le h (Nat.pow_le_pow_left (by decide) k))
theorem nl_maxD {x:Nat} (h:MaxD x):nl x≤4000:=nl_pow h.lt
theorem bts_ext {s t:ByteArray} {L:Nat} {f:Nat→Nat} (h:Bts s L f) (h':Bts t L f):s=t:=by
 have hs:s.data.size=t.data.size:=by
  have a:s.data.size=L:=h.1
  have b:t.data.size=L:=h'.1
  omega
 have hd:s.data=t.data:=by
  apply Array.ext hs
  intro i hi hj
  apply UInt8.toNat_inj.1
  exact (h.2 i hi).trans (h'.2 i hj).symm
 cases s;cases t;simp_all
theorem nparse_txt (s:ByteArray) (q:Rat) (w:World) (hs:FracTxt s q.num q.den) (hp:MaxD q.num.natAbs) (hD:MaxD q.den) :
  Calls Tryz.prog 65 #[.string s] w fun e w'=>∃ r,e = .returned (.tuple #[r,.bool true])∧RatIs w' r q 4000∧Below w.heap.size w w':=by
 obtain⟨t,⟨Lt,hLt,hts,htb⟩,hcase⟩:=hs
 have bt:Bts t Lt (fun i=>48+d10 q.num.natAbs (Lt - 1 - i)):=⟨hts,htb⟩
 have okt:=okD_txt hLt hp.lt
 have nut:=numD_txt hLt
 have h4t:Lt≤4000:=okt.2.1
 have hpos:=hLt.pos
 have hnx:=nl_maxD hp
 have hnd:=nl_maxD hD
 have hden:=q.den_pos
 rcases hcase with ⟨d1,hs⟩ | ⟨d1,u,⟨Lu,hLu,hus,hub⟩,hs⟩
 ·rcases (by omega:q.num<0∨0≤q.num) with hneg | hge
  ·rw [if_pos hneg] at hs
   have b0:Bts s (1+Lt) _:=hs ▸ bts_append (bts_one 45) bt
   have hsz:s.size=1+Lt:=b0.1
   have hex:s.extract 0 (1+Lt)=s:=by rw [←hsz];exact ByteArray.extract_zero_size
   have hpp:=pre_yes hs
   refine npar_whole s t (1+Lt) Lt q.num.natAbs _ _ true q w b0 (by omega) ⟨Nat.le_refl _,fun i hi=>?_,fun h=>absurd h (Nat.lt_irrefl _)⟩ (by rw [hex];exact hpp.1) (by rw [hex];exact hpp.2) bt okt nut (fun _=>by omega) hnx (by simp;omega) d1
   dsimp only
   split
   ·decide
   ·exact (txt_no _ _ _).1
  ·rw [if_neg (by omega)] at hs
   subst hs
   have hex:s.extract 0 Lt=s:=by rw [←hts];exact ByteArray.extract_zero_size
   have hpp:=pre_no (s:=s) (by
    obtain⟨b,hb,hb2⟩:=bts_get bt 0 (by omega)
    rw [hb]
    intro e
    injection e with e
    subst e
    exact (txt_no _ _ _).2 hb2.symm)
   exact npar_whole s s Lt Lt q.num.natAbs _ _ false q w bt (by omega) ⟨Nat.le_refl _,fun i hi=>(txt_no _ _ _).1,fun h=>absurd h (Nat.lt_irrefl _)⟩ (by rw [hex];exact hpp.1) (by rw [hex];exact hpp.2) bt okt nut (fun e=>Bool.noConfusion e) hnx (by simp;omega) d1
 ·have bu:Bts u Lu (fun i=>48+d10 q.den (Lu - 1 - i)):=⟨hus,hub⟩
  have oku:=okD_txt hLu hD.lt
  have nuu:=numD_txt hLu
  have h4u:Lu≤4000:=oku.2.1
  have btu:=bts_append bt (bts_append (bts_one 47) bu)
  rcases (by omega:q.num<0∨0≤q.num) with hneg | hge
  ·rw [if_pos hneg] at hs
   have hs2:=hs
   rw [ByteArray.append_assoc] at hs
   have b0:Bts s (1+(Lt+(1+Lu))) _:=hs ▸ bts_append (bts_one 45) btu
   have b2:Bts (s.extract 0 (1+Lt)) (1+Lt) (fun i=>if i<1 then 45 else 48+d10 q.num.natAbs (Lt - 1 - (i - 1))):=by
    have:=bts_cut b0 0 (1+Lt) (by omega) (by omega) (g:=fun i=>if i<1 then 45 else 48+d10 q.num.natAbs (Lt - 1 - (i - 1))) (fun k hk=>by
     rw [Nat.zero_add]
     rcases Nat.lt_or_ge k 1 with e | e
     ·rw [if_pos e,if_pos e];rfl
     ·rw [if_neg (by omega),if_pos (by omega),if_neg (by omega)])
    exact this
   have b3:Bts (⟨#[45]⟩ ++ t) (1+Lt) (fun i=>if i<1 then 45 else 48+d10 q.num.natAbs (Lt - 1 - (i - 1))):=bts_append (bts_one 45) bt
   have hex:=bts_ext b2 b3
   have hpp:=pre_yes hex
   have b4:=bts_cut b0 (1+Lt+1) (1+(Lt+(1+Lu))) (by omega) (Nat.le_refl _) (g:=fun i=>48+d10 q.den (Lu - 1 - i)) (fun k hk=>by rw [if_neg (by omega),if_neg (by omega),if_neg (by omega),show 1+Lt+1+k - 1 - Lt - 1=k by omega])
   rw [show 1+(Lt+(1+Lu)) - (1+Lt+1)=Lu by omega] at b4
   refine npar_frac s t _ (1+(Lt+(1+Lu))) (1+Lt) Lt Lu q.num.natAbs q.den _ _ _ true q w b0 (by omega) ⟨by omega,fun i hi=>?_,fun h=>?_⟩ (by omega) hpp.1 hpp.2 rfl bt okt nut b4 oku nuu (by omega) (fun _=>by omega) hnx hnd (by simp;omega) rfl
   ·dsimp only
    rcases Nat.lt_or_ge i 1 with e | e
    ·rw [if_pos e];decide
    ·rw [if_neg (by omega),if_pos (by omega)];exact (txt_no _ _ _).1
   ·dsimp only
    rw [if_neg (by omega),if_neg (by omega),if_pos (by omega)];rfl
  ·rw [if_neg (by omega)] at hs
   have b1:Bts s (Lt+(1+Lu)) (fun i=>if i<Lt then 48+d10 q.num.natAbs (Lt - 1 - i) else if i - Lt<1 then 47 else 48+d10 q.den (Lu - 1 - (i - Lt - 1))):=hs ▸ btu
   have b2:Bts (s.extract 0 Lt) Lt (fun i=>48+d10 q.num.natAbs (Lt - 1 - i)):=by
    have:=bts_cut b1 0 Lt (by omega) (by omega) (g:=fun i=>48+d10 q.num.natAbs (Lt - 1 - i)) (fun k hk=>by rw [Nat.zero_add,if_pos (by omega)])
    exact this
   have hex:=bts_ext b2 bt
   have hpp:=pre_no (s:=t) (by
    obtain⟨b,hb,hb2⟩:=bts_get bt 0 (by omega)
    rw [hb]
    intro e
    injection e with e
    subst e
    exact (txt_no _ _ _).2 hb2.symm)
   rw [←hex] at hpp
   have b4:=bts_cut b1 (Lt+1) (Lt+(1+Lu)) (by omega) (Nat.le_refl _) (g:=fun i=>48+d10 q.den (Lu - 1 - i)) (fun k hk=>by rw [if_neg (by omega),if_neg (by omega),show Lt+1+k - Lt - 1=k by omega])
   rw [show Lt+(1+Lu) - (Lt+1)=Lu by omega] at b4
   refine npar_frac s t _ (Lt+(1+Lu)) Lt Lt Lu q.num.natAbs q.den _ _ _ false q w b1 (by omega) ⟨by omega,fun i hi=>?_,fun h=>?_⟩ (by omega) hpp.1 (hpp.2.trans hex) rfl bt okt nut b4 oku nuu (by omega) (fun e=>Bool.noConfusion e) hnx hnd (by simp;omega) rfl
   ·dsimp only
    rw [if_pos hi];exact (txt_no _ _ _).1
   ·dsimp only
    rw [if_neg (by omega),if_pos (by omega)]
end Go.Proofs.YtgmopcncbpdniaaGreat
namespace Go.Proofs.YtgmopcncbpdniaaGreat
open Go.RowKit
attribute [local go_sem ↓] Go.wp_at_zero Go.wp_at_succ
theorem bts_fun {s:ByteArray} {L M:Nat} {f g:Nat→Nat} (h:Bts s L f) (h':Bts s M g):L=M∧∀ i,i<L→f i=g i:=by
 have e:L=M:=h.1.symm.trans h'.1
 subst e
 exact⟨rfl,fun i hi=>(h.2 i (by rw [h.1];exact hi)).symm.trans (h'.2 i (by rw [h.1];exact hi))⟩
theorem sh_run2 {f:Nat→Nat} {L o Lt n:Nat} (h0:shF f o=0) (hd:∀ i,i<Lt→f (o+i)≠47∧f (o+i)≠45) (hL:o+Lt≤L) (h:∀ i,i≤L→shF f i≤n):Lt≤n:=by
 have a:=shF_run o Lt hd
 have b:=h (o+Lt) hL
 omega
theorem sh_two {f:Nat→Nat} {L o Lt Lu n x d:Nat} (h0:shF f o=0) (hd:∀ i,i<Lt→f (o+i)≠47∧f (o+i)≠45) (h1:f (o+Lt)=47) (hu:∀ i,i<Lu→f (o+Lt+1+i)≠47∧f (o+Lt+1+i)≠45)
  (hL:o+Lt+1+Lu≤L) (h:∀ i,i≤L→shF f i≤n) (hx:x<10 ^ Lt) (hdd:d<10 ^ Lu):x<10 ^ n∧d<10 ^ n:=by
 have a:=sh_run2 h0 hd (by omega) h
 have b:=sh_run2 (o:=o+Lt+1) (by simp only [shF];rw [if_pos h1]) hu hL h
 exact⟨Nat.lt_of_lt_of_le hx (Nat.pow_le_pow_right (by decide) a),Nat.lt_of_lt_of_le hdd (Nat.pow_le_pow_right (by decide) b)⟩
theorem sh_frac {s:ByteArray} {p:Int} {d L n:Nat} {f:Nat→Nat} (hs:FracTxt s p d) (hb:Bts s L f) (h:∀ i,i≤L→shF f i≤n) (hn:1≤n):p.natAbs<10 ^ n∧d<10 ^ n:=by
 obtain⟨t,⟨Lt,hLt,hts,htb⟩,hcase⟩:=hs
 have bt:Bts t Lt (fun i=>48+d10 p.natAbs (Lt - 1 - i)):=⟨hts,htb⟩
 have h10:1<10 ^ n:=Nat.lt_of_lt_of_le (by decide:1<10 ^ 1) (Nat.pow_le_pow_right (by decide) hn)
 have pos:∀ {o:Nat},(∀ i,i<Lt→f (o+i)=48+d10 p.natAbs (Lt - 1 - i))→∀ i,i<Lt→f (o+i)≠47∧f (o+i)≠45:=fun g i hi=>by rw [g i hi];exact txt_no _ _ _
 rcases hcase with ⟨rfl,hs⟩ | ⟨d1,u,⟨Lu,hLu,hus,hub⟩,hs⟩
 ·by_cases hneg:p<0
  ·rw [if_pos hneg] at hs
   obtain⟨rfl,hf⟩:=bts_fun hb (hs ▸ bts_append (bts_one 45) bt)
   have g:∀ i,i<Lt→f (1+i)=48+d10 p.natAbs (Lt - 1 - i):=fun i hi=>by
    rw [hf _ (by omega)];(try dsimp only);rw [if_neg (by omega),show 1+i - 1=i by omega]
   have f0:f 0=45:=by rw [hf 0 (by omega)];(try dsimp only);rw [if_pos (by omega)];rfl
   have a:=sh_run2 (o:=1) (by simp only [shF];rw [if_neg (by rw [f0];decide),if_pos f0]) (pos g) (Nat.le_refl _) h
   exact⟨Nat.lt_of_lt_of_le hLt.lt (Nat.pow_le_pow_right (by decide) a),h10⟩
  ·rw [if_neg hneg] at hs
   subst hs
   obtain⟨rfl,hf⟩:=bts_fun hb bt
   have a:=sh_run2 (o:=0) rfl (pos (fun i hi=>by rw [Nat.zero_add];exact hf i hi)) (by omega) h
   exact⟨Nat.lt_of_lt_of_le hLt.lt (Nat.pow_le_pow_right (by decide) a),h10⟩
 ·have bu:Bts u Lu (fun i=>48+d10 d (Lu - 1 - i)):=⟨hus,hub⟩
  have btu:=bts_append bt (bts_append (bts_one 47) bu)
  by_cases hneg:p<0
  ·rw [if_pos hneg,ByteArray.append_assoc] at hs
   obtain⟨rfl,hf⟩:=bts_fun hb (hs ▸ bts_append (bts_one 45) btu)
   have g:∀ i,i<Lt→f (1+i)=48+d10 p.natAbs (Lt - 1 - i):=fun i hi=>by
    rw [hf _ (by omega)];(try dsimp only);rw [if_neg (by omega),show 1+i - 1=i by omega,if_pos hi]
   have f0:f 0=45:=by rw [hf 0 (by omega)];(try dsimp only);rw [if_pos (by omega)];rfl
   refine sh_two (o:=1) (Lt:=Lt) (Lu:=Lu) (by simp only [shF];rw [if_neg (by rw [f0];decide),if_pos f0]) (pos g) ?_ (fun i hi=>?_) (by omega) h hLt.lt hLu.lt
   ·rw [hf _ (by omega)];(try dsimp only);rw [if_neg (by omega),if_neg (by omega),if_pos (by omega)];rfl
   ·rw [hf _ (by omega)];(try dsimp only);rw [if_neg (by omega),if_neg (by omega),if_neg (by omega)];exact txt_no _ _ _
  ·rw [if_neg hneg] at hs
   obtain⟨rfl,hf⟩:=bts_fun hb (hs ▸ btu)
   have g:∀ i,i<Lt→f (0+i)=48+d10 p.natAbs (Lt - 1 - i):=fun i hi=>by
    rw [hf _ (by omega)];(try dsimp only);rw [if_pos (by omega),Nat.zero_add]
   refine sh_two (o:=0) (Lt:=Lt) (Lu:=Lu) rfl (pos g) ?_ (fun i hi=>?_) (by omega) h hLt.lt hLu.lt
   ·rw [hf _ (by omega)];(try dsimp only);rw [if_neg (by omega),if_pos (by omega)];rfl
   ·rw [hf _ (by omega)];(try dsimp only);rw [if_neg (by omega),if_neg (by omega)];exact txt_no _ _ _
set_option maxHeartbeats 1000000 in
set_option maxRecDepth 100000 in
theorem fits_any (x:Value) (q:Rat) (k:Nat) (w:World) (hx:RatIs w x q k) (hk:k≤1000000000) (h1:q.num.natAbs<10 ^ 40) (h2:q.den<10 ^ 40) :
  Calls Tryz.prog 66 #[x,.int .i64 40] w fun e w'=>e = .returned (.bool true)∧Below w.heap.size w w':=by
 obtain⟨u,d,rfl,m1,m2,n1,n2⟩:=hx
 have H1:=Lib.hid h1
 have H2:=Lib.hid h2
 have N1:=Lib.hid n1
 have N2:=Lib.hid n2
 have M1:=Lib.hid m1
 have M2:=Lib.hid m2
 obtain⟨a1,b1,o1,c1,rfl,i1⟩:=m1
 obtain⟨a2,b2,o2,c2,rfl,i2⟩:=m2
 clear h1 h2 n1 n2 i1 i2
 generalize decide (q.num<0)=s at *
 have K0:=Lib.hid (boxes1 w (.cells #[.bool s,.slice a1 (nl q.num.natAbs) c1,.bool false,.slice a2 (nl q.den) c2] 92))
 have RO:=Lib.hid (own4_new w w.heap.size rfl (.bool s) (.slice a1 (nl q.num.natAbs) c1) (.bool false) (.slice a2 (nl q.den) c2) 92)
 have M1:=Lib.hid (M1.out.mono K0.out (Nat.le_refl _))
 have M2:=Lib.hid (M2.out.mono K0.out (Nat.le_refl _))
 have x1:=RO.out.c1
 have x3:=RO.out.c3
 have xl:=RO.out.lt
 have xf:=RO.out.f
 go_enter Tryz.func66,Tryz.ntmps66
 go_wp2_with fail
 refine (text_all _ _ _ M1.out (by have:=N1.out;omega)).mono ?_
 rintro e w1 ⟨s1,rfl,hs1,hb1⟩
 have z1:=hs1.size (K:=40) (by omega) H1.out
 have d1:decide ((s1.size:Int)≤40)=true:=by simp;omega
 have RO:=Lib.hid (RO.out.below hb1 RO.out.lt)
 have M2:=Lib.hid (M2.out.mono hb1 (Nat.le_refl _))
 have K0:=Lib.hid (K0.out.trans (hb1.mono K0.out.size))
 clear hb1 hs1 x1 x3 xl xf z1
 have x3:=RO.out.c3
 go_wp2_with fail
 refine (text_all _ _ _ M2.out (by have:=N2.out;omega)).mono ?_
 rintro e w2 ⟨s2,rfl,hs2,hb2⟩
 have z2:=hs2.size (K:=40) (by omega) H2.out
 have d2:decide ((s2.size:Int)≤40)=true:=by simp;omega
 have K0:=Lib.hid (K0.out.trans (hb2.mono K0.out.size))
 clear hb2 hs2 z2
 go_wp2
 go_ret
 exact⟨rfl,K0.out⟩
end Go.Proofs.YtgmopcncbpdniaaGreat
namespace Go.Proofs.YtgmopcncbpdniaaGreat
open Go.RowKit
attribute [local go_sem ↓] Go.wp_at_zero Go.wp_at_succ
theorem lt_pow_of {x k N:Nat} (hk:k≤N) (h:x<10 ^ k):x<10 ^ N:=Nat.lt_of_lt_of_le h (Nat.pow_le_pow_right (by decide) hk)
theorem maxD_pow {x k:Nat} (hk:k≤4000) (h:x<10 ^ k):MaxD x:=⟨lt_pow_of (N:=4000) hk h⟩
set_option maxHeartbeats 4000000 in
set_option maxRecDepth 100000 in
theorem dclears_any (vc vd vs:Value) (n:Nat) (cash:Nat→Int) (m:Nat→Nat) (d:Nat→Nat→Int) (q:Nat→Rat) (ss:Nat→ByteArray) (r:Bool) (hr:r=true↔∀ i,i<n→GdQ n cash d q i) (w:World) (hc:Ints w vc n cash) (hm:Mat w vd n m d) (hD:Debts n m d) (hC:∀ i,i<n→0≤cash i∧cash i≤1000) (hd:∀ i j,0≤d i j)
  (hs:Strs w vs n ss) (ht:TxtsOf n q ss) (hq:∀ j,j<n→(q j).num.natAbs<10 ^ 40∧(q j).den<10 ^ 40) :
  Calls Tryz.prog 35 #[vc,vd,vs] w fun e w'=>e = .returned (.tuple #[.bool r,.int .i64 0])∧Below w.heap.size w w':=by
 obtain⟨i0,hi,hz0,hz1,hz2⟩:=info_parts infoR
 have HC:=Lib.hid hc
 have HD:=Lib.hid hm
 have HR:=Lib.hid (rng_of hD hC hd)
 have h0:0<n:=hD.1
 have h8:n≤8:=hD.2.1
 have HDB:=Lib.hid hD
 have HCB:=Lib.hid hC
 have HT:=Lib.hid ht
 have HQ:=Lib.hid hq
 have HRR:=Lib.hid hr
 have HSS:=Lib.hid hs
 obtain⟨ca,cb,co,cc,rfl,hcs⟩:=hc
 obtain⟨da,db,d_o,dc,ra,rb,ro,rc,rfl,hdm⟩:=hm
 obtain⟨sa,sb,so,sc,rfl,hs⟩:=hs
 have HS:=Lib.hid hs
 have enn:((n:Int) != (n:Int))=false:=by simp
 clear hcs hdm hD hC hd hr ht hq hs
 go_enter Tryz.func35,Tryz.ntmps35
 go_upto_region 4 with (go_at_call 38;(with_reducible refine (read_ok _ _ n cash m d _ HC.out HD.out HDB.out HCB.out).mono ?_);rintro e w1 ⟨b,vt,rfl,hm,hb1⟩;have HM:=Lib.hid hm;have KW:=Lib.hid hb1;clear hm hb1)
 have c0:=HM.out.c0
 have VL0:=Lib.hid (Below.refl w1.heap.size w1)
 have BR0:Hid (BRow w1 w1.heap.size (.slice none 0 0) 0 q 4000 []):=Lib.hid (BRow.nil _ _ _ _)
 go_wp2
 go_loopw [10,34] (fun v10 v34 wr=>∃ k:Nat,k≤n∧v34 = .int .i64 (k:Nat)∧∃ va vk xs,v10 = .slice va k vk∧Hid (BRow wr w1.heap.size (.slice va k vk) k q 4000 xs)∧Hid (Below w1.heap.size w1 wr)) (fun _ v34 _=>n - (intOf v34).toNat)
 case atStart=>exact⟨0,by omega,rfl,none,0,[],rfl,BR0,VL0⟩
 case round=>
  clear VL0 BR0
  obtain⟨k,hk,rfl,va,vk,xs,rfl,BR,VL⟩:=hrel
  by_cases h:k<n
  ·have x0:=(HS.out.mono (KW.out.trans (VL.out.mono KW.out.size)) (Nat.le_refl _)).cell k h
   have ix:=fun W=>ixN HS.out k sc h W
   obtain⟨g1,g2⟩:=HQ.out k h
   have M1:=Lib.hid (maxD_pow (by decide) g1)
   have M2:=Lib.hid (maxD_pow (by decide) g2)
   have G1:=Lib.hid g1
   have G2:=Lib.hid g2
   clear g1 g2
   go_upto_region 11 with (go_at_call 65;(with_reducible refine (nparse_txt _ (q k) _ (HT.out.txt k h) M1.out M2.out).mono ?_);rintro e w2 ⟨r2,rfl,hr2,hb2⟩;obtain⟨s2,a2,n2,c2,b2,m2,d2,rfl,K2⟩:=hr2.shape;clear hr2;have BR:=Lib.hid (BR.out.below hb2);have VL:=Lib.hid (VL.out.trans (hb2.mono VL.out.size));clear hb2)
   have K3:=Lib.hid (boxes1 w2 (.cells #[.bool s2,.slice a2 n2 c2,.bool false,.slice b2 m2 d2] 92))
   have RN:=Lib.hid (own4_new w2 w2.heap.size rfl (.bool s2) (.slice a2 n2 c2) (.bool false) (.slice b2 m2 d2) 92)
   have K2:=Lib.hid (K2.out.mono K3.out (Nat.le_refl _))
   have BR:=Lib.hid (BR.out.below K3.out)
   have VL:=Lib.hid (VL.out.trans (K3.out.mono VL.out.size))
   generalize w2.alloc (.cells #[.bool s2,.slice a2 n2 c2,.bool false,.slice b2 m2 d2] 92)=w3 at *
   clear K3
   have y0:=RN.out.c0;have y1:=RN.out.c1;have y2:=RN.out.c2;have y3:=RN.out.c3
   go_wp2_with (first
    | (go_at_call 66;(with_reducible refine (fits_any _ (q k) 4000 _ K2.out (by decide) G1.out G2.out).mono ?_);rintro e w4 ⟨rfl,hb4⟩;have K2:=Lib.hid (K2.out.mono hb4 (Nat.le_refl _));have RN:=Lib.hid (RN.out.below hb4 RN.out.lt);clear y0 y1 y2 y3;have y0:=RN.out.c0;have y1:=RN.out.c1;have y2:=RN.out.c2;have y3:=RN.out.c3;have BR:=Lib.hid (BR.out.below hb4);have VL:=Lib.hid (VL.out.trans (hb4.mono VL.out.size));clear hb4;have HA3:Hid (w1.heap.size≤(w4.alloc (.cells #[.bool s2,.slice a2 n2 c2,.bool false,.slice b2 m2 d2] 92)).heap.size):=Lib.hid (by have:=VL.out.size;simp;omega);have BRA:=Lib.hid (BR.out.alloc (.cells #[.bool s2,.slice a2 n2 c2,.bool false,.slice b2 m2 d2] 92));have NEW:=Lib.hid (own4_rd (own4_new w4 w4.heap.size rfl (.bool s2) (.slice a2 n2 c2) (.bool false) (.slice b2 m2 d2) 92)))
    | (at_builtin;go_loud (refine wpList_append_kind rfl (.tmp 50) (.tmp 52) 73 rfl w1.heap.size 92 i0 (.agg #[.bool false,.slice none 0 0,.bool false,.slice none 0 0]) 4 64 Tryz.underlying73 hi hz0 hz1 hz2 rfl (by decide) (.slice va k vk) k xs rfl BRA.out.own BRA.out.kind (noLimb_4 _ _ _ _ _ _ _ _) ⟨w4.heap.size,0,none⟩ 1 1 [.bool s2,.slice a2 n2 c2,.bool false,.slice b2 m2 d2] rfl rfl (cells4' NEW.out) (one4' _ _ _ _ rfl rfl rfl rfl) (noLimb_4 _ _ _ _ _ _ _ _) (by unfold maxLen;omega) (by omega) HA3.out (by omega) ?_;intro v' w7 hown hgrow hblk hkind;obtain⟨va',vk',rfl⟩:=own_shape hown;have HOWN:=Lib.hid hown;have HGROW:=Lib.hid hgrow;have HBLK:=Lib.hid hblk;have HKIND:=Lib.hid hkind;clear hown hgrow hblk hkind)))
   have BR7:=Lib.hid (BRA.out.push (K2.out.mono (boxes1 w4 _) (Nat.le_refl _)) rfl HGROW.out HOWN.out HKIND.out)
   have VL7:=Lib.hid ((VL.out.alloc VL.out.size (.cells #[.bool s2,.slice a2 n2 c2,.bool false,.slice b2 m2 d2] 92)).grown HGROW.out HA3.out (fun kk e=>(BRA.out.own.lt kk e).1))
   go_roundw
   case rel=>exact⟨k+1,by omega,by go_num,va',vk',_,rfl,BR7,VL7⟩
   case measure=>simp [intOf];omega
  ·obtain rfl:k=n:=by omega
   obtain⟨g,cap,hge,hgb,RB⟩:=BR.out.row h0
   injection hge with e1 e2 e3
   subst e1 e3
   have RB:=Lib.hid RB
   have KW:=Lib.hid (KW.out.trans (VL.out.mono KW.out.size))
   have HM:=Lib.hid (HM.out.mono VL.out (Nat.le_refl _))
   go_wp2_with (go_at_call 67;go_loud ((with_reducible refine (mclr_any b k vk g cash d _ _ _ q 4000 r HRR.out _ HM.out h8 HR.out RB.out.rats (by decide) (by decide)).mono ?_));rintro e w3 ⟨rfl,hb3⟩;have KW:=Lib.hid (KW.out.trans (hb3.mono KW.out.size));clear hb3)
   go_ret2
   exact⟨rfl,KW.out⟩
end Go.Proofs.YtgmopcncbpdniaaGreat
