import Derived.Test.YtgmopcncbpdniaaGreatJPlainR
import Derived.Test.YtgmopcncbpdniaaGreatJRNum
import Derived.Test.YtgmopcncbpdniaaGreatJNParN
import Derived.Test.YtgmopcncbpdniaaGreatJClr
import Derived.Test.YtgmopcncbpdniaaGreatJGrp2
import Derived.Test.YtgmopcncbpdniaaGreatJBrow
import Derived.Maps.AppendAt
import Derived.Laws.Rows
import Derived.RegionTactic
import Derived.Deep.DeepCutAuto
import Derived.Deep.CutBlock
import Derived.Test.YtgmopcncbpdniaaGreatJMclr
import Derived.Test.YtgmopcncbpdniaaGreatJTakesE
import Derived.Test.YtgmopcncbpdniaaGreatJParsNb
import Derived.Test.YtgmopcncbpdniaaGreatJParsNe
set_option linter.unusedVariables false
set_option linter.unusedSimpArgs false
namespace Go.Proofs.YtgmopcncbpdniaaGreat
open Go.RowKit
attribute [local go_sem ↓] Go.wp_at_zero Go.wp_at_succ
def shF (f:Nat→Nat):Nat→Nat
 | 0=>0
 | i+1=>if f i=47 then 0 else if f i=45 then shF f i else shF f i+1
theorem shF_run {f:Nat→Nat} (a:Nat):∀ k,(∀ i,i<k→f (a+i)≠47∧f (a+i)≠45)→shF f (a+k)=shF f a+k
 | 0,_=>rfl
 | k+1,h=>by
  rw [show a+(k+1)=a+k+1 by omega]
  simp only [shF]
  rw [if_neg (h k (by omega)).1,if_neg (h k (by omega)).2,shF_run a k (fun i hi=>h i (by omega))]
  omega
set_option maxHeartbeats 2000000 in
set_option maxRecDepth 100000 in
theorem short_any (s:ByteArray) (L n:Nat) (f:Nat→Nat) (b:Bool) (w:World) (hs:Bts s L f) (hL:L≤1000000) (hn:n≤1000000) (hb:b=true↔∀ i,i≤L→shF f i≤n) :
  Calls Tryz.prog 37 #[.string s,.int .i64 (n:Nat)] w fun e w'=>e = .returned (.bool b)∧Below w.heap.size w w':=by
 have HS:=Lib.hid hs
 obtain⟨rfl,hbt⟩:=hs
 have HB:=Lib.hid hbt
 have HOK:=Lib.hid hb
 clear hbt hb
 go_enter Tryz.func37,Tryz.ntmps37
 go_wp2
 go_loop [5,6] (fun v5 v6=>∃ k K:Nat,k≤s.size∧v6 = .int .i64 (k:Nat)∧v5 = .int .i64 (K:Nat)∧Hid (K=shF f k)∧Hid (∀ i,i≤k→shF f i≤n)) (fun v5 v6=>s.size - (intOf v6).toNat)
 case atStart=>exact⟨0,0,by omega,rfl,rfl,Lib.hid rfl,Lib.hid (fun i hi=>by rw [show i=0 by omega];exact Nat.zero_le _)⟩
 case round=>
  obtain⟨k,K,hk,rfl,rfl,HK,HG⟩:=hrel
  by_cases h:k<s.size
  ·have e1:decide ((k:Int)<(s.size:Int))=true:=by simpa using h
   have e1n:decide (k<s.size)=true:=by simpa using h
   have q0:(0:Int)≤((k:Nat):Int):=by omega
   have q1:((k:Nat):Int)<(s.size:Int):=by omega
   have xi:=HB.out k h
   have hKn:K≤n:=by rw [HK.out];exact HG.out k (Nat.le_refl _)
   obtain⟨c,hc⟩:∃ c,c=f k:=⟨_,rfl⟩
   rw [←hc] at xi
   have HC:=Lib.hid hc
   clear hc
   by_cases g1:c=47
   ·subst g1
    have hv:shF f (k+1)=0:=by simp only [shF];rw [if_pos HC.out.symm]
    have d1:decide ((n:Int)<0)=false:=by simp
    go_wp2
    go_round
    case rel=>exact⟨k+1,0,by omega,by go_num,rfl,Lib.hid hv.symm,Lib.hid (fun i hi=>by
     rcases Nat.lt_or_ge i (k+1) with e | e
     ·exact HG.out i (by omega)
     ·rw [show i=k+1 by omega,hv];exact Nat.zero_le _)⟩
    case measure=>simp [intOf];omega
   ·have b1:(((c:Nat):Int) == 47)=false:=by simp;omega
    by_cases g2:c=45
    ·subst g2
     have hv:shF f (k+1)=K:=by simp only [shF];rw [if_neg (by rw [←HC.out];decide),if_pos HC.out.symm,HK.out]
     have d1:decide ((n:Int)<(K:Int))=false:=by simp;omega
     go_wp2
     go_round
     case rel=>exact⟨k+1,K,by omega,by go_num,rfl,Lib.hid hv.symm,Lib.hid (fun i hi=>by
      rcases Nat.lt_or_ge i (k+1) with e | e
      ·exact HG.out i (by omega)
      ·rw [show i=k+1 by omega,hv];exact hKn)⟩
     case measure=>simp [intOf];omega
    ·have b2:(((c:Nat):Int) != 45)=true:=by simp;omega
     have hv:shF f (k+1)=K+1:=by simp only [shF];rw [if_neg (by rw [←HC.out];exact g1),if_neg (by rw [←HC.out];exact g2),HK.out]
     by_cases g3:K+1≤n
     ·have d1:decide ((n:Int)<(K:Int)+1)=false:=by simp;omega
      go_wp2
      go_round
      case rel=>exact⟨k+1,K+1,by omega,by go_num,by go_num,Lib.hid hv.symm,Lib.hid (fun i hi=>by
       rcases Nat.lt_or_ge i (k+1) with e | e
       ·exact HG.out i (by omega)
       ·rw [show i=k+1 by omega,hv];exact g3)⟩
      case measure=>simp [intOf];omega
     ·have d1:decide ((n:Int)<(K:Int)+1)=true:=by simp;omega
      obtain rfl:b=false:=bool_false HOK.out (fun q=>by have:=q (k+1) (by omega);omega)
      go_wp2
      go_ret
      exact⟨rfl,Below.refl _ _⟩
  ·obtain rfl:s.size=k:=by omega
   have e1:decide ((s.size:Int)<(s.size:Int))=false:=by simp
   obtain rfl:b=true:=HOK.out.2 HG.out
   go_wp2
   go_ret
   exact⟨rfl,Below.refl _ _⟩
end Go.Proofs.YtgmopcncbpdniaaGreat
namespace Go.Proofs.YtgmopcncbpdniaaGreat
open Go.RowKit
attribute [local go_sem ↓] Go.wp_at_zero Go.wp_at_succ
theorem bts_fun {s:ByteArray} {L M:Nat} {f g:Nat→Nat} (h:Bts s L f) (h':Bts s M g):L=M∧∀ i,i<L→f i=g i:=by
 have e:L=M:=h.1.symm.trans h'.1
 subst e
 exact⟨rfl,fun i hi=>(h.2 i (by rw [h.1];exact hi)).symm.trans (h'.2 i (by rw [h.1];exact hi))⟩
theorem sh_run2 {f:Nat→Nat} {L o Lt n:Nat} (h0:shF f o=0) (hd:∀ i,i<Lt→f (o+i)≠47∧f (o+i)≠45) (hL:o+Lt≤L) (h:∀ i,i≤L→shF f i≤n):Lt≤n:=by
 have a:=shF_run o Lt hd
 have b:=h (o+Lt) hL
 omega
theorem sh_two {f:Nat→Nat} {L o Lt Lu n x d:Nat} (h0:shF f o=0) (hd:∀ i,i<Lt→f (o+i)≠47∧f (o+i)≠45) (h1:f (o+Lt)=47) (hu:∀ i,i<Lu→f (o+Lt+1+i)≠47∧f (o+Lt+1+i)≠45)
  (hL:o+Lt+1+Lu≤L) (h:∀ i,i≤L→shF f i≤n) (hx:x<10 ^ Lt) (hdd:d<10 ^ Lu):x<10 ^ n∧d<10 ^ n:=by
 have a:=sh_run2 h0 hd (by omega) h
 have b:=sh_run2 (o:=o+Lt+1) (by simp only [shF];rw [if_pos h1]) hu hL h
 exact⟨Nat.lt_of_lt_of_le hx (Nat.pow_le_pow_right (by decide) a),Nat.lt_of_lt_of_le hdd (Nat.pow_le_pow_right (by decide) b)⟩
theorem sh_frac {s:ByteArray} {p:Int} {d L n:Nat} {f:Nat→Nat} (hs:FracTxt s p d) (hb:Bts s L f) (h:∀ i,i≤L→shF f i≤n) (hn:1≤n):p.natAbs<10 ^ n∧d<10 ^ n:=by
 obtain⟨t,⟨Lt,hLt,hts,htb⟩,hcase⟩:=hs
 have bt:Bts t Lt (fun i=>48+d10 p.natAbs (Lt - 1 - i)):=⟨hts,htb⟩
 have h10:1<10 ^ n:=Nat.lt_of_lt_of_le (by decide:1<10 ^ 1) (Nat.pow_le_pow_right (by decide) hn)
 have pos:∀ {o:Nat},(∀ i,i<Lt→f (o+i)=48+d10 p.natAbs (Lt - 1 - i))→∀ i,i<Lt→f (o+i)≠47∧f (o+i)≠45:=fun g i hi=>by rw [g i hi];exact txt_no _ _ _
 rcases hcase with ⟨rfl,hs⟩ | ⟨d1,u,⟨Lu,hLu,hus,hub⟩,hs⟩
 ·by_cases hneg:p<0
  ·rw [if_pos hneg] at hs
   obtain⟨rfl,hf⟩:=bts_fun hb (hs ▸ bts_append (bts_one 45) bt)
   have g:∀ i,i<Lt→f (1+i)=48+d10 p.natAbs (Lt - 1 - i):=fun i hi=>by
    rw [hf _ (by omega)];(try dsimp only);rw [if_neg (by omega),show 1+i - 1=i by omega]
   have f0:f 0=45:=by rw [hf 0 (by omega)];(try dsimp only);rw [if_pos (by omega)];rfl
   have a:=sh_run2 (o:=1) (by simp only [shF];rw [if_neg (by rw [f0];decide),if_pos f0]) (pos g) (Nat.le_refl _) h
   exact⟨Nat.lt_of_lt_of_le hLt.lt (Nat.pow_le_pow_right (by decide) a),h10⟩
  ·rw [if_neg hneg] at hs
   subst hs
   obtain⟨rfl,hf⟩:=bts_fun hb bt
   have a:=sh_run2 (o:=0) rfl (pos (fun i hi=>by rw [Nat.zero_add];exact hf i hi)) (by omega) h
   exact⟨Nat.lt_of_lt_of_le hLt.lt (Nat.pow_le_pow_right (by decide) a),h10⟩
 ·have bu:Bts u Lu (fun i=>48+d10 d (Lu - 1 - i)):=⟨hus,hub⟩
  have btu:=bts_append bt (bts_append (bts_one 47) bu)
  by_cases hneg:p<0
  ·rw [if_pos hneg,ByteArray.append_assoc] at hs
   obtain⟨rfl,hf⟩:=bts_fun hb (hs ▸ bts_append (bts_one 45) btu)
   have g:∀ i,i<Lt→f (1+i)=48+d10 p.natAbs (Lt - 1 - i):=fun i hi=>by
    rw [hf _ (by omega)];(try dsimp only);rw [if_neg (by omega),show 1+i - 1=i by omega,if_pos hi]
   have f0:f 0=45:=by rw [hf 0 (by omega)];(try dsimp only);rw [if_pos (by omega)];rfl
   refine sh_two (o:=1) (Lt:=Lt) (Lu:=Lu) (by simp only [shF];rw [if_neg (by rw [f0];decide),if_pos f0]) (pos g) ?_ (fun i hi=>?_) (by omega) h hLt.lt hLu.lt
   ·rw [hf _ (by omega)];(try dsimp only);rw [if_neg (by omega),if_neg (by omega),if_pos (by omega)];rfl
   ·rw [hf _ (by omega)];(try dsimp only);rw [if_neg (by omega),if_neg (by omega),if_neg (by omega)];exact txt_no _ _ _
  ·rw [if_neg hneg] at hs
   obtain⟨rfl,hf⟩:=bts_fun hb (hs ▸ btu)
   have g:∀ i,i<Lt→f (0+i)=48+d10 p.natAbs (Lt - 1 - i):=fun i hi=>by
    rw [hf _ (by omega)];(try dsimp only);rw [if_pos (by omega),Nat.zero_add]
   refine sh_two (o:=0) (Lt:=Lt) (Lu:=Lu) rfl (pos g) ?_ (fun i hi=>?_) (by omega) h hLt.lt hLu.lt
   ·rw [hf _ (by omega)];(try dsimp only);rw [if_neg (by omega),if_pos (by omega)];rfl
   ·rw [hf _ (by omega)];(try dsimp only);rw [if_neg (by omega),if_neg (by omega)];exact txt_no _ _ _
set_option maxHeartbeats 1000000 in
set_option maxRecDepth 100000 in
theorem fits_any (x:Value) (q:Rat) (k:Nat) (w:World) (hx:RatIs w x q k) (hk:k≤1000000000) (h1:q.num.natAbs<10 ^ 40) (h2:q.den<10 ^ 40) :
  Calls Tryz.prog 66 #[x,.int .i64 40] w fun e w'=>e = .returned (.bool true)∧Below w.heap.size w w':=by
 obtain⟨u,d,rfl,m1,m2,n1,n2⟩:=hx
 have H1:=Lib.hid h1
 have H2:=Lib.hid h2
 have N1:=Lib.hid n1
 have N2:=Lib.hid n2
 have M1:=Lib.hid m1
 have M2:=Lib.hid m2
 obtain⟨a1,b1,o1,c1,rfl,i1⟩:=m1
 obtain⟨a2,b2,o2,c2,rfl,i2⟩:=m2
 clear h1 h2 n1 n2 i1 i2
 generalize decide (q.num<0)=s at *
 have K0:=Lib.hid (boxes1 w (.cells #[.bool s,.slice a1 (nl q.num.natAbs) c1,.bool false,.slice a2 (nl q.den) c2] 92))
 have RO:=Lib.hid (own4_new w w.heap.size rfl (.bool s) (.slice a1 (nl q.num.natAbs) c1) (.bool false) (.slice a2 (nl q.den) c2) 92)
 have M1:=Lib.hid (M1.out.mono K0.out (Nat.le_refl _))
 have M2:=Lib.hid (M2.out.mono K0.out (Nat.le_refl _))
 have x1:=RO.out.c1
 have x3:=RO.out.c3
 have xl:=RO.out.lt
 have xf:=RO.out.f
 go_enter Tryz.func66,Tryz.ntmps66
 go_wp2_with fail
 refine (text_all _ _ _ M1.out (by have:=N1.out;omega)).mono ?_
 rintro e w1 ⟨s1,rfl,hs1,hb1⟩
 have z1:=hs1.size (K:=40) (by omega) H1.out
 have d1:decide ((s1.size:Int)≤40)=true:=by simp;omega
 have RO:=Lib.hid (RO.out.below hb1 RO.out.lt)
 have M2:=Lib.hid (M2.out.mono hb1 (Nat.le_refl _))
 have K0:=Lib.hid (K0.out.trans (hb1.mono K0.out.size))
 clear hb1 hs1 x1 x3 xl xf z1
 have x3:=RO.out.c3
 go_wp2_with fail
 refine (text_all _ _ _ M2.out (by have:=N2.out;omega)).mono ?_
 rintro e w2 ⟨s2,rfl,hs2,hb2⟩
 have z2:=hs2.size (K:=40) (by omega) H2.out
 have d2:decide ((s2.size:Int)≤40)=true:=by simp;omega
 have K0:=Lib.hid (K0.out.trans (hb2.mono K0.out.size))
 clear hb2 hs2 z2
 go_wp2
 go_ret
 exact⟨rfl,K0.out⟩
end Go.Proofs.YtgmopcncbpdniaaGreat
namespace Go.Proofs.YtgmopcncbpdniaaGreat
open Go.RowKit
attribute [local go_sem ↓] Go.wp_at_zero Go.wp_at_succ
theorem lt_pow_of {x k N:Nat} (hk:k≤N) (h:x<10 ^ k):x<10 ^ N:=Nat.lt_of_lt_of_le h (Nat.pow_le_pow_right (by decide) hk)
theorem maxD_pow {x k:Nat} (hk:k≤4000) (h:x<10 ^ k):MaxD x:=⟨lt_pow_of (N:=4000) hk h⟩
end Go.Proofs.YtgmopcncbpdniaaGreat
namespace Go.Proofs.YtgmopcncbpdniaaGreat
open Go.RowKit
theorem slAt_ex (f:Nat→Nat):∀ L,∃ k,SlAt L f k
 | 0=>⟨0,Nat.le_refl _,fun i hi=>by omega,fun h=>by omega⟩
 | L+1=>by
  obtain⟨k,h1,h2,h3⟩:=slAt_ex f L
  rcases Nat.lt_or_ge k L with e | e
  ·exact⟨k,by omega,h2,fun _=>h3 e⟩
  ·obtain rfl:k=L:=by omega
   by_cases h:f k=47
   ·exact⟨k,by omega,h2,fun _=>h⟩
   ·refine⟨k+1,Nat.le_refl _,fun i hi=>?_,fun h=>by omega⟩
    rcases Nat.lt_or_ge i k with e2 | e2
    ·exact h2 i e2
    ·rw [show i=k by omega];exact h
theorem minus_split (o:ByteArray):∃ mn t,Lib.hasPrefix o.data.toList [45]=mn∧(⟨(Lib.trimPrefix o.data.toList [45]).toArray⟩:ByteArray)=t∧o=if mn=true then ⟨#[45]⟩ ++ t else t:=by
 by_cases h:o.data.toList[0]? = some 45
 ·have e:o=⟨#[45]⟩ ++ ⟨o.data.toList.tail.toArray⟩:=by
   cases o with
   | mk d=>
    cases d with
    | mk l=>
     cases l with
     | nil=>simp at h
     | cons a l=>
      simp at h
      subst h
      apply ByteArray.ext
      simp
  obtain⟨h1,h2⟩:=pre_yes e
  exact⟨true,_,h1,h2,by rw [if_pos rfl];exact e⟩
 ·obtain⟨h1,h2⟩:=pre_no h
  exact⟨false,_,h1,h2,by simp⟩
theorem slash_split {s:ByteArray} {L k:Nat} {f:Nat→Nat} (hb:Bts s L f) (hk:k<L) (h:f k=47):s=s.extract 0 k ++ (⟨#[47]⟩ ++ s.extract (k+1) L):=by
 have b1:=bts_cut hb 0 k (by omega) (by omega) (g:=f) (fun i hi=>by rw [Nat.zero_add])
 have b2:=bts_cut hb (k+1) L (by omega) (Nat.le_refl _) (g:=fun i=>f (k+1+i)) (fun i hi=>rfl)
 have b3:=bts_append b1 (bts_append (bts_one 47) b2)
 rw [show k - 0+(1+(L - (k+1)))=L by omega] at b3
 refine bts_ext hb (b3.congr (fun i hi=>?_))
 rcases Nat.lt_or_ge i k with e | e
 ·rw [if_pos (by omega)]
 ·rw [if_neg (by omega)]
  rcases Nat.lt_or_ge (i - k) 1 with e2 | e2
  ·rw [if_pos (by omega),show i=k by omega,h];rfl
  ·rw [if_neg (by omega),show k+1+(i - (k - 0) - 1)=i by omega]
theorem nl_okD {L:Nat} {f:Nat→Nat} (ok:okD L f):nl (numD L f)≤4000:=
 nl_pow (k:=4000) (lt_pow_of (N:=4000) ok.2.1 (valT_lt (fun i=>dv_lt _) L))
theorem frac_max {s:ByteArray} {p:Int} {d:Nat} (h:FracTxt s p d) (hs:s.size≤4000):MaxD p.natAbs∧MaxD d:=by
 obtain⟨t,⟨Lt,hLt,hts,-⟩,hc⟩:=h
 have e1:(⟨#[45]⟩:ByteArray).size=1:=rfl
 have e2:(⟨#[47]⟩:ByteArray).size=1:=rfl
 rcases hc with ⟨rfl,h⟩ | ⟨_,u,⟨Lu,hLu,hus,-⟩,h⟩
 ·have hz:Lt≤4000:=by
   rw [h] at hs
   split at hs
   ·rw [ByteArray.size_append] at hs;omega
   ·omega
  exact⟨maxD_pow hz hLt.lt,maxD_pow (k:=1) (by omega) (by decide)⟩
 ·rw [h,ByteArray.size_append,ByteArray.size_append] at hs
  have hz:Lt≤4000:=by
   split at hs
   ·rw [ByteArray.size_append] at hs;omega
   ·omega
  exact⟨maxD_pow hz hLt.lt,maxD_pow (by omega) hLu.lt⟩
theorem npar_not (s:ByteArray) (w:World) (hL:s.size≤4000) (h:¬ GoodT s) :
  Calls Tryz.prog 65 #[.string s] w fun e w'=>∃ s a n c b m d,e = .returned (.tuple #[.agg #[.bool s,.slice a n c,.bool false,.slice b m d],.bool false])∧Below w.heap.size w w':=by
 obtain⟨k,hk⟩:=slAt_ex (fun i=>if h:i<s.size then s[i].toNat else 0) s.size
 have hb:=bts_self s
 have hkL:=hk.1
 obtain⟨mn,t,hp,ht,ho⟩:=minus_split (s.extract 0 k)
 have bo:=bts_cut hb 0 k (by omega) hkL (g:=_) (fun i hi=>by rw [Nat.zero_add])
 have hos:(s.extract 0 k).size=k:=bo.1
 have htl:t.size≤k:=by
  rw [ho] at hos
  split at hos
  ·rw [ByteArray.size_append] at hos;omega
  ·omega
 have bt:=bts_self t
 obtain⟨b1,hb1⟩:∃ b1:Bool,b1=true↔okD t.size (fun i=>if h:i<t.size then t[i].toNat else 0):=by
  by_cases hh:okD t.size (fun i=>if h:i<t.size then t[i].toNat else 0)
  ·exact⟨true,fun _=>hh,fun _=>rfl⟩
  ·exact⟨false,fun e=>Bool.noConfusion e,fun e=>absurd e hh⟩
 obtain⟨X,hX⟩:∃ X,(if b1=true then numD t.size (fun i=>if h:i<t.size then t[i].toNat else 0) else 0)=X:=⟨_,rfl⟩
 rcases Nat.lt_or_ge k s.size with e | e
 ·have hsp:=slash_split hb e (hk.2.2 e)
  have bu0:=bts_cut hb (k+1) s.size (by omega) (Nat.le_refl _) (g:=_) (fun i hi=>rfl)
  obtain⟨u,hu⟩:∃ u,s.extract (k+1) s.size=u:=⟨_,rfl⟩
  rw [hu] at bu0 hsp
  have hul:u.size≤s.size:=by have:=bu0.1;omega
  have bu:=bts_self u
  obtain⟨b2,hb2⟩:∃ b2:Bool,b2=true↔okD u.size (fun i=>if h:i<u.size then u[i].toNat else 0):=by
   by_cases hh:okD u.size (fun i=>if h:i<u.size then u[i].toNat else 0)
   ·exact⟨true,fun _=>hh,fun _=>rfl⟩
   ·exact⟨false,fun e=>Bool.noConfusion e,fun e=>absurd e hh⟩
  obtain⟨D,hD⟩:∃ D,(if b2=true then numD u.size (fun i=>if h:i<u.size then u[i].toNat else 0) else 0)=D:=⟨_,rfl⟩
  have hDn:nl D≤4000:=by
   rw [←hD]
   split
   ·exact nl_okD (hb2.1 (by assumption))
   ·decide
  by_cases hbad:b1=false∨D≤1∨(mn=true∧X=0)
  ·exact (npn_frac s t u s.size k t.size u.size X D _ _ _ mn b1 b2 w hb (by omega) hk e hp ht hu bt (by omega) hb1 hX bu (by omega) hb2 hD hDn hbad).mono fun e w' ⟨h1,h2⟩=>⟨_,_,_,_,_,_,_,h1,h2⟩
  ·have g1:b1=true:=by
    cases b1
    ·exact absurd (.inl rfl) hbad
    ·rfl
   have g2:1<D:=by
    rcases Nat.lt_or_ge 1 D with g | g
    ·exact g
    ·exact absurd (.inr (.inl g)) hbad
   have g3:mn=true→0<X:=fun hm=>by
    rcases Nat.eq_zero_or_pos X with g | g
    ·exact absurd (.inr (.inr ⟨hm,g⟩)) hbad
    ·exact g
   have g4:b2=true:=by
    cases b2
    ·simp at hD;omega
    ·rfl
   subst g1 g4
   rw [if_pos rfl] at hX hD
   have o1:=hb1.1 rfl
   have o2:=hb2.1 rfl
   have hXn:nl X≤4000:=by rw [←hX];exact nl_okD o1
   refine npn_gcd s t u s.size k t.size u.size X D _ _ _ mn w hb (by omega) hk e hp ht hu bt o1 hX bu o2 hD g2 g3 hXn hDn (fun hg=>h ?_)
   have i1:=txt_of_ok bt o1
   have i2:=txt_of_ok bu o2
   rw [hX] at i1
   rw [hD] at i2
   rw [ho] at hsp
   exact good_frac hsp i1 i2 g3 g2 hg
 ·obtain rfl:k=s.size:=by omega
  have hex:s.extract 0 s.size=s:=ByteArray.extract_zero_size
  refine (npn_whole s t s.size t.size X _ _ mn b1 w hb (by omega) hk hp ht bt (by omega) hb1 hX ?_).mono fun e w' ⟨h1,h2⟩=>⟨_,_,_,_,_,_,_,h1,h2⟩
  rcases Bool.eq_false_or_eq_true b1 with g1 | g1
  ·rcases Bool.eq_false_or_eq_true mn with g2 | g2
   ·rcases Nat.eq_zero_or_pos X with g3 | g3
    ·exact .inr ⟨g2,g3⟩
    ·exfalso
     subst g1
     rw [if_pos rfl] at hX
     have i1:=txt_of_ok bt (hb1.1 rfl)
     rw [hX] at i1
     rw [hex] at ho
     exact h (good_whole ho i1 (fun _=>g3))
   ·exfalso
    subst g1
    rw [if_pos rfl] at hX
    have i1:=txt_of_ok bt (hb1.1 rfl)
    rw [hX] at i1
    rw [hex] at ho
    exact h (good_whole ho i1 (fun e=>by rw [g2] at e;cases e))
  ·exact .inl g1
theorem npar_good (s:ByteArray) (q:Rat) (w:World) (hL:s.size≤4000) (h:FracTxt s q.num q.den) :
  Calls Tryz.prog 65 #[.string s] w fun e w'=>∃ r,e = .returned (.tuple #[r,.bool true])∧RatIs w' r q 4000∧Below w.heap.size w w':=
 nparse_txt s q w h (frac_max h hL).1 (frac_max h hL).2
end Go.Proofs.YtgmopcncbpdniaaGreat
namespace Go.Proofs.YtgmopcncbpdniaaGreat
open Go.RowKit
attribute [local go_sem ↓] Go.wp_at_zero Go.wp_at_succ
theorem slD_at (f:Nat→Nat) (L:Nat):∀ j,j≤L→slD f L j<L→f (slD f L j)=47
 | 0,_,h=>by simp only [slD] at h;omega
 | j+1,hj,h=>by
  simp only [slD] at h ⊢
  split
  ·assumption
  ·rename_i h2
   rw [if_neg h2] at h
   exact slD_at f L j (by omega) h
theorem ok_bool (L:Nat) (f:Nat→Nat):∃ b:Bool,b=true↔okD L f:=by
 by_cases h:okD L f
 ·exact⟨true,fun _=>h,fun _=>rfl⟩
 ·exact⟨false,fun e=>Bool.noConfusion e,fun e=>absurd e h⟩
theorem minus_first {s:ByteArray} (hp:0<s.size) (h:s[0].toNat=45):s=⟨#[45]⟩ ++ s.extract 1 s.size:=by
 have hb:=bts_self s
 have b2:=bts_cut hb 1 s.size (by omega) (Nat.le_refl _) (g:=fun i=>(fun i=>if h:i<s.size then s[i].toNat else 0) (1+i)) (fun i hi=>rfl)
 have b3:=bts_append (bts_one 45) b2
 rw [show 1+(s.size - 1)=s.size by omega] at b3
 refine bts_ext hb (b3.congr (fun i hi=>?_))
 rcases Nat.lt_or_ge i 1 with e | e
 ·obtain rfl:i=0:=by omega
  rw [if_pos (by omega)]
  simp [hp,h]
 ·rw [if_neg (by omega),show 1+(i - 1)=i by omega]
theorem not_frac {s s1:ByteArray} {mn:Bool} (ho:s=if mn=true then ⟨#[45]⟩ ++ s1 else s1) (h:¬ GoodT s) {L sl:Nat} {f:Nat→Nat} (hb:Bts s1 L f) (hlt:sl<L) (h47:f sl=47) (b1 b2:Bool) (o1:b1=true↔okD sl f) (o2:b2=true↔okD (L - (sl+1)) (fun i=>f (sl+1+i))) (N D:Nat) (hN:N=if b1=true then numD sl f else 0) (hD:D=if b2=true then numD (L - (sl+1)) (fun i=>f (sl+1+i)) else 0) :
  b2=false∨(b2=true∧D<2)∨((b2=true∧2≤D)∧¬ Nat.gcd N D=1):=by
 rcases Bool.eq_false_or_eq_true b2 with e2 | e2
 ·right
  rcases Nat.lt_or_ge D 2 with g | g
  ·exact .inl ⟨e2,g⟩
  ·refine .inr ⟨⟨e2,g⟩,fun hg=>?_⟩
   have hN0:0<N:=by
    rcases Nat.eq_zero_or_pos N with z | z
    ·rw [z,Nat.gcd_zero_left] at hg;omega
    ·exact z
   have e1:b1=true:=by
    cases b1
    ·simp at hN;omega
    ·rfl
   subst e1 e2
   rw [if_pos rfl] at hN hD
   have bh:=bts_cut hb 0 sl (by omega) (by omega) (g:=f) (fun k hk=>by rw [Nat.zero_add])
   have bt:=bts_cut hb (sl+1) L (by omega) (Nat.le_refl _) (g:=fun i=>f (sl+1+i)) (fun i hi=>rfl)
   have i1:=txt_of_ok bh (o1.1 rfl)
   have i2:=txt_of_ok bt (o2.1 rfl)
   rw [Nat.sub_zero,←hN] at i1
   rw [←hD] at i2
   have hs:=slash_split hb hlt h47
   refine h (good_frac (mn:=mn) (t:=s1.extract 0 sl) ?_ i1 i2 (fun _=>hN0) (by omega) hg)
   rw [ho]
   cases mn
   ·simpa using hs
   ·simp only [if_true,ByteArray.append_assoc]
    rw [←hs]
 ·exact .inl e2
theorem not_whole {s s1:ByteArray} {mn:Bool} (ho:s=if mn=true then ⟨#[45]⟩ ++ s1 else s1) (h:¬ GoodT s) {L:Nat} {f:Nat→Nat} (hb:Bts s1 L f) (b1:Bool) (o1:b1=true↔okD L f) (N:Nat) (hN:N=if b1=true then numD L f else 0) :
  b1=false∨(mn=true∧b1=true∧N=0):=by
 rcases Bool.eq_false_or_eq_true b1 with e1 | e1
 ·right
  subst e1
  rw [if_pos rfl] at hN
  have i1:=txt_of_ok hb (o1.1 rfl)
  rw [←hN] at i1
  rcases Bool.eq_false_or_eq_true mn with g2 | g2
  ·rcases Nat.eq_zero_or_pos N with g3 | g3
   ·exact⟨g2,rfl,g3⟩
   ·exact absurd (good_whole ho i1 (fun _=>g3)) h
  ·exact absurd (good_whole ho i1 (fun e=>by rw [g2] at e;cases e)) h
 ·exact .inl e1
theorem rparse_not (s:ByteArray) (w:World) (hL:s.size≤4000) (h:¬ GoodT s) :
  Calls Tryz.prog 68 #[.string s] w fun e w'=>e = .returned (.tuple #[.agg #[.bool false,.slice none 0 0,.bool false,.slice none 0 0],.bool false])∧Below w.heap.size w w':=by
 by_cases hm:∃ hp:0<s.size,s[0].toNat=45
 ·obtain⟨hp,x0⟩:=hm
  have ho:=minus_first hp x0
  obtain⟨s1,es⟩:∃ s1,s.extract 1 s.size=s1:=⟨_,rfl⟩
  rw [es] at ho
  have hb:=bts_self s1
  obtain⟨f,hf⟩:∃ f:Nat→Nat,f=fun i=>if h:i<s1.size then s1[i].toNat else 0:=⟨_,rfl⟩
  rw [←hf] at hb
  obtain⟨sl,hsl⟩:∃ sl,slD f s1.size s1.size=sl:=⟨_,rfl⟩
  have hle:=slD_le f s1.size s1.size
  rw [hsl] at hle
  have bh:=bts_cut hb 0 sl (by omega) hle (g:=f) (fun k hk=>by rw [Nat.zero_add])
  obtain⟨b1,o1⟩:=ok_bool sl f
  have hom:s=if true=true then ⟨#[45]⟩ ++ s1 else s1:=by rw [if_pos rfl];exact ho
  by_cases hlt:sl<s1.size
  ·have h47:=slD_at f s1.size s1.size (Nat.le_refl _) (by rw [hsl];exact hlt)
   rw [hsl] at h47
   have bt:=bts_cut hb (sl+1) s1.size (by omega) (Nat.le_refl _) (g:=fun i=>f (sl+1+i)) (fun i hi=>rfl)
   obtain⟨b2,o2⟩:=ok_bool (s1.size - (sl+1)) (fun i=>f (sl+1+i))
   rcases not_frac (mn:=true) hom h hb hlt h47 b1 b2 o1 o2 _ _ rfl rfl with g | g | g
   ·exact parsn_ms0 s s1 _ _ f f _ sl _ _ _ w (by omega) hp x0 es hb hsl rfl bh b1 o1 rfl hlt rfl bt b2 o2 rfl g trivial
   ·exact parsn_ms1 s s1 _ _ f f _ sl _ _ _ w (by omega) hp x0 es hb hsl rfl bh b1 o1 rfl hlt rfl bt b2 o2 rfl g trivial
   ·exact parsn_ms2 s s1 _ _ f f _ sl _ _ _ w (by omega) hp x0 es hb hsl rfl bh b1 o1 rfl hlt rfl bt b2 o2 rfl g.1 g.2
  ·obtain rfl:sl=s1.size:=by omega
   rcases not_whole (mn:=true) hom h hb b1 o1 _ rfl with g | g
   ·exact parsn_mn0 s s1 _ f f _ _ w (by omega) hp x0 es hb hsl rfl bh b1 o1 rfl hlt g
   ·exact parsn_mn1 s s1 _ f f _ _ w (by omega) hp x0 es hb hsl rfl bh b1 o1 rfl hlt g.2
 ·have hm2:(hp:0<s.size)→s[0].toNat≠45:=fun hp e=>hm ⟨hp,e⟩
  have hb:=bts_self s
  obtain⟨f,hf⟩:∃ f:Nat→Nat,f=fun i=>if h:i<s.size then s[i].toNat else 0:=⟨_,rfl⟩
  rw [←hf] at hb
  obtain⟨sl,hsl⟩:∃ sl,slD f s.size s.size=sl:=⟨_,rfl⟩
  have hle:=slD_le f s.size s.size
  rw [hsl] at hle
  have bh:=bts_cut hb 0 sl (by omega) hle (g:=f) (fun k hk=>by rw [Nat.zero_add])
  obtain⟨b1,o1⟩:=ok_bool sl f
  have hom:s=if false=true then ⟨#[45]⟩ ++ s else s:=by rw [if_neg (by decide)]
  by_cases hne:s.size=0
  ·have hlt:¬ sl<s.size:=by omega
   obtain rfl:sl=s.size:=by omega
   rcases not_whole (mn:=false) hom h hb b1 o1 _ rfl with g | g
   ·exact parsn_en0 s _ f f _ _ w (by omega) hne hb hsl rfl bh b1 o1 rfl hlt g
   ·exact absurd g.1 (by decide)
  ·by_cases hlt:sl<s.size
   ·have h47:=slD_at f s.size s.size (Nat.le_refl _) (by rw [hsl];exact hlt)
    rw [hsl] at h47
    have bt:=bts_cut hb (sl+1) s.size (by omega) (Nat.le_refl _) (g:=fun i=>f (sl+1+i)) (fun i hi=>rfl)
    obtain⟨b2,o2⟩:=ok_bool (s.size - (sl+1)) (fun i=>f (sl+1+i))
    rcases not_frac (mn:=false) hom h hb hlt h47 b1 b2 o1 o2 _ _ rfl rfl with g | g | g
    ·exact parsn_ps0 s _ _ f f _ sl _ _ _ w hne (by omega) hm2 hb hsl rfl bh b1 o1 rfl hlt rfl bt b2 o2 rfl g trivial
    ·exact parsn_ps1 s _ _ f f _ sl _ _ _ w hne (by omega) hm2 hb hsl rfl bh b1 o1 rfl hlt rfl bt b2 o2 rfl g trivial
    ·exact parsn_ps2 s _ _ f f _ sl _ _ _ w hne (by omega) hm2 hb hsl rfl bh b1 o1 rfl hlt rfl bt b2 o2 rfl g.1 g.2
   ·obtain rfl:sl=s.size:=by omega
    rcases not_whole (mn:=false) hom h hb b1 o1 _ rfl with g | g
    ·exact parsn_pn0 s _ f f _ _ w hne (by omega) hm2 hb hsl rfl bh b1 o1 rfl hlt g
    ·exact absurd g.1 (by decide)
set_option maxHeartbeats 1000000 in
theorem valid_gen (s:ByteArray) (b:Bool) (w:World) (hL:s.size≤4000) (hb:b=true↔GoodT s) :
  Calls Tryz.prog 36 #[.string s] w fun e w'=>e = .returned (.bool b)∧Below w.heap.size w w':=by
 rcases Bool.eq_false_or_eq_true b with e | e
 ·subst e
  obtain⟨q,hq⟩:=hb.1 rfl
  have hm:=frac_max hq hL
  exact valid_any s q w ⟨hq,hm.1,hm.2⟩
 ·subst e
  have H:=Lib.hid (show ¬ GoodT s from fun h=>Bool.noConfusion (hb.2 h))
  have HL:=Lib.hid hL
  clear hb hL
  go_enter Tryz.func36,Tryz.ntmps36
  go_wp2_with (go_at_call 68;(with_reducible refine (rparse_not s _ HL.out H.out).mono ?_);rintro e w1 ⟨rfl,hb1⟩;have KW:=Lib.hid hb1;clear hb1)
  go_ret
  exact⟨rfl,KW.out.alloc KW.out.size _⟩
end Go.Proofs.YtgmopcncbpdniaaGreat
namespace Go.Proofs.YtgmopcncbpdniaaGreat
open Go.RowKit
attribute [local go_sem ↓] Go.wp_at_zero Go.wp_at_succ
theorem IsTxt.size_iff {s:ByteArray} {x:Nat} (h:IsTxt s x):decide ((s.size:Int)≤40)=decide (x<10 ^ 40):=by
 by_cases e:x<10 ^ 40
 ·have a:=h.size (K:=40) (by omega) e
  rw [decide_eq_true e]
  simp;omega
 ·rw [decide_eq_false e]
  obtain⟨L,h1,h2,_⟩:=h
  have:¬ L≤40:=fun hl=>e (Nat.lt_of_lt_of_le h1.lt (Nat.pow_le_pow_right (by decide) hl))
  simp;omega
set_option maxHeartbeats 1000000 in
set_option maxRecDepth 100000 in
theorem fits_gen (x:Value) (q:Rat) (k:Nat) (b1 b2:Bool) (w:World) (hx:RatIs w x q k) (hk:k≤1000000000) (h1:decide (q.num.natAbs<10 ^ 40)=b1) (h2:decide (q.den<10 ^ 40)=b2) :
  Calls Tryz.prog 66 #[x,.int .i64 40] w fun e w'=>e = .returned (.bool (b1 && b2))∧Below w.heap.size w w':=by
 obtain⟨u,d,rfl,m1,m2,n1,n2⟩:=hx
 have H1:=Lib.hid h1
 have H2:=Lib.hid h2
 have N1:=Lib.hid n1
 have N2:=Lib.hid n2
 have M1:=Lib.hid m1
 have M2:=Lib.hid m2
 obtain⟨a1,b1',o1,c1,rfl,i1⟩:=m1
 obtain⟨a2,b2',o2,c2,rfl,i2⟩:=m2
 clear h1 h2 n1 n2 i1 i2
 generalize decide (q.num<0)=s at *
 have K0:=Lib.hid (boxes1 w (.cells #[.bool s,.slice a1 (nl q.num.natAbs) c1,.bool false,.slice a2 (nl q.den) c2] 92))
 have RO:=Lib.hid (own4_new w w.heap.size rfl (.bool s) (.slice a1 (nl q.num.natAbs) c1) (.bool false) (.slice a2 (nl q.den) c2) 92)
 have M1:=Lib.hid (M1.out.mono K0.out (Nat.le_refl _))
 have M2:=Lib.hid (M2.out.mono K0.out (Nat.le_refl _))
 have x1:=RO.out.c1
 have x3:=RO.out.c3
 have xl:=RO.out.lt
 have xf:=RO.out.f
 go_enter Tryz.func66,Tryz.ntmps66
 go_wp2_with fail
 refine (text_all _ _ _ M1.out (by have:=N1.out;omega)).mono ?_
 rintro e w1 ⟨s1,rfl,hs1,hb1⟩
 have d1:=hs1.size_iff.trans H1.out
 have RO:=Lib.hid (RO.out.below hb1 RO.out.lt)
 have M2:=Lib.hid (M2.out.mono hb1 (Nat.le_refl _))
 have K0:=Lib.hid (K0.out.trans (hb1.mono K0.out.size))
 clear hb1 hs1 x1 x3 xl xf
 have x3:=RO.out.c3
 rcases b1 with _ | _
 ·go_wp2
  go_ret
  exact⟨rfl,K0.out⟩
 ·go_wp2_with fail
  refine (text_all _ _ _ M2.out (by have:=N2.out;omega)).mono ?_
  rintro e w2 ⟨s2,rfl,hs2,hb2⟩
  have d2:=hs2.size_iff.trans H2.out
  have K0:=Lib.hid (K0.out.trans (hb2.mono K0.out.size))
  clear hb2 hs2
  cases b2
  all_goals
   go_wp2
   go_ret
   exact⟨rfl,K0.out⟩
end Go.Proofs.YtgmopcncbpdniaaGreat
