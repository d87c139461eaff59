import Derived.Test.YtgmopcncbpdniaaGreatJInt3
import Derived.Test.YtgmopcncbpdniaaGreatJRat5
import Derived.Test.YtgmopcncbpdniaaGreatJPars2
import Derived.Handy
import Derived.Laws.BytesString
import Derived.Test.YtgmopcncbpdniaaGreatJPlainD
set_option linter.unusedVariables false
set_option linter.unusedSimpArgs false
namespace Go.Proofs.YtgmopcncbpdniaaGreat
open Go.RowKit
attribute [local go_sem ↓] Go.wp_at_zero Go.wp_at_succ
theorem isTxt_zero:IsTxt ⟨#[48]⟩ 0:=⟨1,⟨by decide,fun _=>rfl,fun h=>by omega⟩,rfl,fun i h=>by
 have h2:i<1:=h
 obtain rfl:i=0:=by omega
 rfl⟩
theorem text_zero (u:Value) (w:World) (hu:Mag w u 0) :
  Calls Tryz.prog 108 #[u] w fun e w'=>∃ s,e = .returned (.string s)∧IsTxt s 0∧Below w.heap.size w w':=by
 obtain⟨a0,b0,o0,c0,rfl,i0⟩:=hu
 rw [nl_zero]
 have KW0:=Lib.hid (Below.refl w.heap.size w)
 clear i0
 go_enter Tryz.func108,Tryz.ntmps108
 go_wp2
 go_ret
 exact⟨_,rfl,isTxt_zero,KW0.out⟩
theorem text_all (u:Value) (x:Nat) (w:World) (hu:Mag w u x) (hK:nl x≤1000000000) :
  Calls Tryz.prog 108 #[u] w fun e w'=>∃ s,e = .returned (.string s)∧IsTxt s x∧Below w.heap.size w w':=by
 rcases Nat.eq_zero_or_pos x with rfl | h
 ·exact text_zero u w hu
 ·exact text_any u x w hu h hK
theorem IsTxt.size {s:ByteArray} {x K:Nat} (h:IsTxt s x) (hK:1≤K) (hx:x<10 ^ K):s.size≤K:=by
 obtain⟨L,h1,h2,_⟩:=h
 rw [h2];exact h1.le hK hx
structure MaxD (x:Nat):Prop where
 lt:x<10 ^ 4000
theorem text_num (u:Value) (x:Nat) (w:World) (hu:Mag w u x) (hx:MaxD x) (hK:nl x≤1000000000) :
  Calls Tryz.prog 108 #[u] w fun e w'=>∃ s,e = .returned (.string s)∧decide (4000<s.size)=false∧decide ((4000:Int)<(s.size:Int))=false∧Hid (s.size≤4000)∧Hid (IsTxt s x)∧Below w.heap.size w w':=by
 refine (text_all u x w hu hK).mono ?_
 rintro e w' ⟨s,rfl,hs,hb⟩
 have h:=hs.size (K:=4000) (by omega) hx.lt
 exact⟨s,rfl,by simp;omega,by simp;omega,Lib.hid h,Lib.hid hs,hb⟩
theorem nb1 {s:Nat} (h:s≤4000):¬ (9223372036854775807<s+1):=by omega
theorem nb2 {s:Nat} (h:s≤4000):¬ (9223372036854775807<1+s):=by omega
theorem nb3 {s:Nat} (h:s≤4000):¬ (9223372036854775807<1+s+1):=by omega
theorem nb4 {s u:Nat} (h:s≤4000) (h2:u≤4000):¬ (9223372036854775807<s+1+u):=by omega
theorem nb5 {s u:Nat} (h:s≤4000) (h2:u≤4000):¬ (9223372036854775807<1+s+1+u):=by omega
set_option maxHeartbeats 2000000 in
theorem rat_num_any (x:Value) (q:Rat) (k:Nat) (w:World) (hx:RatIs w x q k) (hk:k≤1000000000) (hN:MaxD q.num.natAbs) (hD:MaxD q.den) :
  Calls Tryz.prog 72 #[x] w fun e w'=>∃ s,e = .returned (.tuple #[.string s,.int .i64 0])∧FracTxt s q.num q.den∧Below w.heap.size w w':=by
 have hx0:=hx
 obtain⟨u,d,rfl,⟨a1,b1,o1,c1,rfl,i1⟩,⟨a2,b2,o2,c2,rfl,i2⟩,h3,h4⟩:=hx
 have HMN:Hid (Mag w (.slice a1 (nl q.num.natAbs) c1) q.num.natAbs):=Lib.hid ⟨a1,b1,o1,c1,rfl,i1⟩
 have HMD:Hid (Mag w (.slice a2 (nl q.den) c2) q.den):=Lib.hid ⟨a2,b2,o2,c2,rfl,i2⟩
 have HX:=Lib.hid hx0
 obtain⟨sg,hsg⟩:∃ sg,sg=decide (q.num<0):=⟨_,rfl⟩
 obtain⟨n1,hn1⟩:∃ n1,n1=nl q.num.natAbs:=⟨_,rfl⟩
 obtain⟨n2,hn2⟩:∃ n2,n2=nl q.den:=⟨_,rfl⟩
 rw [←hsg,←hn1,←hn2] at HX
 rw [←hn1] at HMN
 rw [←hn2] at HMD
 rw [←hsg,←hn1,←hn2]
 have HSG:=Lib.hid hsg
 have H3:=Lib.hid (Nat.le_trans h3 hk)
 have H4:=Lib.hid (Nat.le_trans h4 hk)
 have KW:=Lib.hid (boxes1 w (.cells #[.bool sg,.slice a1 n1 c1,.bool false,.slice a2 n2 c2] 92))
 have PO:=Lib.hid (own4_new w _ rfl (.bool sg) (.slice a1 n1 c1) (.bool false) (.slice a2 n2 c2) 92)
 have HMN:=Lib.hid (HMN.out.mono KW.out (Nat.le_refl _))
 have HMD:=Lib.hid (HMD.out.mono KW.out (Nat.le_refl _))
 have HX:=Lib.hid (HX.out.mono KW.out (Nat.le_refl _))
 have HN:=Lib.hid hN
 have HD:=Lib.hid hD
 have HFT:Hid (∀ t,IsTxt t q.num.natAbs→∀ r,r=(if sg=true then ⟨#[45]⟩ ++ t else t)→(q.den=1→FracTxt r q.num q.den)∧(q.den≠1→∀ u,IsTxt u q.den→FracTxt (r ++ (⟨#[47]⟩ ++ u)) q.num q.den)):=Lib.hid (by
  intro t ht r hr
  have e:r=(if q.num<0 then ⟨#[45]⟩ ++ t else t):=by
   rw [hr,hsg];by_cases h:q.num<0 <;> simp [h]
  subst e
  exact⟨fun h=>⟨t,ht,.inl ⟨h,rfl⟩⟩,fun h u hu=>⟨t,ht,.inr ⟨h,u,hu,rfl⟩⟩⟩)
 clear hx0 i1 i2 h3 h4 hsg hn1 hn2 hN hD
 cases sg with
 | false=>
  by_cases hd:q.den=1
  ·have HD1:Hid (decide (q.den=1)=true):=Lib.hid (by simpa using hd)
   have HD2:=Lib.hid hd
   clear hd
   go_enter Tryz.func72,Tryz.ntmps72
   go_wp2_with (first
    | (go_at_call 108;(with_reducible refine (text_num _ q.num.natAbs _ HMN.out HN.out H3.out).mono ?_);rintro e w1 ⟨s1,rfl,z1,z2,Z1,HT1,hb1⟩;have ha1:=nb1 Z1.out;have ha2:=nb2 Z1.out;have ha3:=nb3 Z1.out;have KW:=Lib.hid (KW.out.trans (hb1.mono KW.out.size));have HX:=Lib.hid (HX.out.mono hb1 (Nat.le_refl _));have HMD:=Lib.hid (HMD.out.mono hb1 (Nat.le_refl _));have PO:=Lib.hid (PO.out.below hb1 PO.out.lt);clear hb1 HMN;obtain⟨x0,x1,x2,x3,_,_⟩:=PO.out)
    | (go_at_call 96;(with_reducible refine (rat_integer _ q k _ true HD1.out HX.out).mono ?_);rintro e w2 ⟨rfl,hb2⟩;have KW:=Lib.hid (KW.out.trans (hb2.mono KW.out.size));have HMD:=Lib.hid (HMD.out.mono hb2 (Nat.le_refl _));have PO:=Lib.hid (PO.out.below hb2 PO.out.lt);clear hb2 x0 x1 x2 x3;obtain⟨x0,x1,x2,x3,_,_⟩:=PO.out))
   go_ret2
   exact⟨_,rfl,(HFT.out s1 HT1.out s1 (by simp)).1 HD2.out,KW.out⟩
  ·have HD1:Hid (decide (q.den=1)=false):=Lib.hid (by simpa using hd)
   have HD2:=Lib.hid hd
   clear hd
   go_enter Tryz.func72,Tryz.ntmps72
   go_wp2_with (first
    | (go_at_call 108;(with_reducible refine (text_num _ q.num.natAbs _ HMN.out HN.out H3.out).mono ?_);rintro e w1 ⟨s1,rfl,z1,z2,Z1,HT1,hb1⟩;have ha1:=nb1 Z1.out;have ha2:=nb2 Z1.out;have ha3:=nb3 Z1.out;have KW:=Lib.hid (KW.out.trans (hb1.mono KW.out.size));have HX:=Lib.hid (HX.out.mono hb1 (Nat.le_refl _));have HMD:=Lib.hid (HMD.out.mono hb1 (Nat.le_refl _));have PO:=Lib.hid (PO.out.below hb1 PO.out.lt);clear hb1 HMN;obtain⟨x0,x1,x2,x3,_,_⟩:=PO.out)
    | (go_at_call 96;(with_reducible refine (rat_integer _ q k _ false HD1.out HX.out).mono ?_);rintro e w2 ⟨rfl,hb2⟩;have KW:=Lib.hid (KW.out.trans (hb2.mono KW.out.size));have HMD:=Lib.hid (HMD.out.mono hb2 (Nat.le_refl _));have PO:=Lib.hid (PO.out.below hb2 PO.out.lt);clear hb2 x0 x1 x2 x3;obtain⟨x0,x1,x2,x3,_,_⟩:=PO.out)
    | (go_at_call 108;(with_reducible refine (text_num _ q.den _ HMD.out HD.out H4.out).mono ?_);rintro e w3 ⟨s2,rfl,z3,z4,Z2,HT2,hb3⟩;have ha4:=nb4 Z1.out Z2.out;have ha5:=nb5 Z1.out Z2.out;have KW:=Lib.hid (KW.out.trans (hb3.mono KW.out.size))))
   go_ret2
   exact⟨_,rfl,by first | exact (HFT.out s1 HT1.out s1 (by simp)).2 HD2.out s2 HT2.out | (rw [ByteArray.append_assoc];exact (HFT.out s1 HT1.out s1 (by simp)).2 HD2.out s2 HT2.out),KW.out⟩
 | true=>
  by_cases hd:q.den=1
  ·have HD1:Hid (decide (q.den=1)=true):=Lib.hid (by simpa using hd)
   have HD2:=Lib.hid hd
   clear hd
   go_enter Tryz.func72,Tryz.ntmps72
   go_wp2_with (first
    | (go_at_call 108;(with_reducible refine (text_num _ q.num.natAbs _ HMN.out HN.out H3.out).mono ?_);rintro e w1 ⟨s1,rfl,z1,z2,Z1,HT1,hb1⟩;have ha1:=nb1 Z1.out;have ha2:=nb2 Z1.out;have ha3:=nb3 Z1.out;have KW:=Lib.hid (KW.out.trans (hb1.mono KW.out.size));have HX:=Lib.hid (HX.out.mono hb1 (Nat.le_refl _));have HMD:=Lib.hid (HMD.out.mono hb1 (Nat.le_refl _));have PO:=Lib.hid (PO.out.below hb1 PO.out.lt);clear hb1 HMN;obtain⟨x0,x1,x2,x3,_,_⟩:=PO.out)
    | (go_at_call 96;(with_reducible refine (rat_integer _ q k _ true HD1.out HX.out).mono ?_);rintro e w2 ⟨rfl,hb2⟩;have KW:=Lib.hid (KW.out.trans (hb2.mono KW.out.size));have HMD:=Lib.hid (HMD.out.mono hb2 (Nat.le_refl _));have PO:=Lib.hid (PO.out.below hb2 PO.out.lt);clear hb2 x0 x1 x2 x3;obtain⟨x0,x1,x2,x3,_,_⟩:=PO.out))
   go_ret2
   exact⟨_,rfl,(HFT.out s1 HT1.out (⟨#[45]⟩ ++ s1) (by simp)).1 HD2.out,KW.out⟩
  ·have HD1:Hid (decide (q.den=1)=false):=Lib.hid (by simpa using hd)
   have HD2:=Lib.hid hd
   clear hd
   go_enter Tryz.func72,Tryz.ntmps72
   go_wp2_with (first
    | (go_at_call 108;(with_reducible refine (text_num _ q.num.natAbs _ HMN.out HN.out H3.out).mono ?_);rintro e w1 ⟨s1,rfl,z1,z2,Z1,HT1,hb1⟩;have ha1:=nb1 Z1.out;have ha2:=nb2 Z1.out;have ha3:=nb3 Z1.out;have KW:=Lib.hid (KW.out.trans (hb1.mono KW.out.size));have HX:=Lib.hid (HX.out.mono hb1 (Nat.le_refl _));have HMD:=Lib.hid (HMD.out.mono hb1 (Nat.le_refl _));have PO:=Lib.hid (PO.out.below hb1 PO.out.lt);clear hb1 HMN;obtain⟨x0,x1,x2,x3,_,_⟩:=PO.out)
    | (go_at_call 96;(with_reducible refine (rat_integer _ q k _ false HD1.out HX.out).mono ?_);rintro e w2 ⟨rfl,hb2⟩;have KW:=Lib.hid (KW.out.trans (hb2.mono KW.out.size));have HMD:=Lib.hid (HMD.out.mono hb2 (Nat.le_refl _));have PO:=Lib.hid (PO.out.below hb2 PO.out.lt);clear hb2 x0 x1 x2 x3;obtain⟨x0,x1,x2,x3,_,_⟩:=PO.out)
    | (go_at_call 108;(with_reducible refine (text_num _ q.den _ HMD.out HD.out H4.out).mono ?_);rintro e w3 ⟨s2,rfl,z3,z4,Z2,HT2,hb3⟩;have ha4:=nb4 Z1.out Z2.out;have ha5:=nb5 Z1.out Z2.out;have KW:=Lib.hid (KW.out.trans (hb3.mono KW.out.size))))
   go_ret2
   exact⟨_,rfl,by first | exact (HFT.out s1 HT1.out (⟨#[45]⟩ ++ s1) (by simp)).2 HD2.out s2 HT2.out | (rw [ByteArray.append_assoc];exact (HFT.out s1 HT1.out (⟨#[45]⟩ ++ s1) (by simp)).2 HD2.out s2 HT2.out),KW.out⟩
end Go.Proofs.YtgmopcncbpdniaaGreat
namespace Go.Proofs.YtgmopcncbpdniaaGreat
open Go.RowKit
attribute [local go_sem ↓] Go.wp_at_zero Go.wp_at_succ
theorem slD_first (f:Nat→Nat) (L p:Nat) (hp:p<L) (h1:f p=47) (h2:∀ k,k<p→f k≠47):∀ j,j≤L→L - j≤p→slD f L j=p
 | 0,_,h=>by omega
 | j+1,hj,h=>by
  simp only [slD]
  split
  ·rename_i h3
   rcases Nat.lt_or_ge (L - (j+1)) p with h4 | h4
   ·exact absurd h3 (h2 _ h4)
   ·omega
  ·rename_i h3
   exact slD_first f L p hp h1 h2 j (by omega) (by
    rcases Nat.lt_or_ge p (L - j) with h4 | h4
    ·exfalso;apply h3;rw [show L - (j+1)=p by omega];exact h1
    ·exact h4)
theorem slD_none (f:Nat→Nat) (L:Nat) (h2:∀ k,k<L→f k≠47):∀ j,j≤L→slD f L j=L
 | 0,_=>rfl
 | j+1,hj=>by
  simp only [slD]
  rw [if_neg (h2 _ (by omega))]
  exact slD_none f L h2 j (by omega)
theorem bts_append {a b:ByteArray} {La Lb:Nat} {fa fb:Nat→Nat} (ha:Bts a La fa) (hb:Bts b Lb fb):Bts (a ++ b) (La+Lb) (fun i=>if i<La then fa i else fb (i - La)):=by
 refine⟨by rw [ByteArray.size_append,ha.1,hb.1],fun i h=>?_⟩
 dsimp only
 rcases Nat.lt_or_ge i a.size with h1 | h1
 ·rw [ByteArray.getElem_append_left h1,if_pos (by rw [←ha.1];exact h1)];exact ha.2 i h1
 ·have h2:i - a.size<b.size:=by rw [ByteArray.size_append] at h;omega
  rw [ByteArray.getElem_append_right h1,if_neg (by rw [←ha.1];omega),hb.2 _ h2,ha.1]
theorem bts_one (c:UInt8):Bts ⟨#[c]⟩ 1 (fun _=>c.toNat):=⟨rfl,fun i h=>by
 have h1:i=0:=by have:i<1:=h;omega
 subst h1;rfl⟩
theorem bts_cut {s:ByteArray} {L:Nat} {f g:Nat→Nat} (hs:Bts s L f) (i j:Nat) (hij:i≤j) (hj:j≤L) (hg:∀ k,k<j - i→f (i+k)=g k):Bts (s.extract i j) (j - i) g:=by
 have hz:(s.extract i j).size=j - i:=by rw [ByteArray.size_extract,hs.1,Nat.min_eq_left hj]
 refine⟨hz,fun k h=>?_⟩
 rw [ByteArray.getElem_extract,hs.2 (i+k) (by rw [hs.1];omega)]
 exact hg k (by omega)
theorem Bts.congr {s:ByteArray} {L:Nat} {f g:Nat→Nat} (hs:Bts s L f) (hg:∀ k,k<L→f k=g k):Bts s L g:=⟨hs.1,fun i h=>by rw [hs.2 i h];exact hg i (by rw [←hs.1];exact h)⟩
theorem parse_txt (s:ByteArray) (p:Int) (d:Nat) (w:World) (hs:FracTxt s p d) (hp:MaxD p.natAbs) (hD:MaxD d) (hd:0<d) (hg:Nat.gcd p.natAbs d=1) :
  Calls Tryz.prog 68 #[.string s] w fun e w'=>∃ r,e = .returned (.tuple #[r,.bool true])∧QIs w' r p ((d:Nat):Int) 1000∧Below w.heap.size w w':=by
 obtain⟨t,⟨Lt,hLt,hts,htb⟩,hcase⟩:=hs
 have bt:Bts t Lt (fun i=>48+d10 p.natAbs (Lt - 1 - i)):=⟨hts,htb⟩
 have okt:=okD_txt hLt hp.lt
 have nut:=numD_txt hLt
 have h4t:Lt≤4000:=okt.2.1
 have hpos:=hLt.pos
 rcases hcase with ⟨d1,hs⟩ | ⟨d1,u,⟨Lu,hLu,hus,hub⟩,hs⟩
 ·subst d1
  rcases (by omega:p<0∨0≤p) with hneg | hge
  ·rw [if_pos hneg] at hs
   have b0:Bts s (1+Lt) _:=hs ▸ bts_append (bts_one 45) bt
   have b1:=bts_cut b0 1 (1+Lt) (by omega) (Nat.le_refl _) (g:=fun i=>48+d10 p.natAbs (Lt - 1 - i)) (fun k hk=>by
    rw [if_neg (by omega),show 1+k - 1=k by omega])
   rw [show 1+Lt - 1=Lt by omega] at b1
   have hsz:s.size=1+Lt:=b0.1
   rw [←hsz] at b1
   have e1:(s.extract 1 s.size).size=Lt:=b1.1
   have hsl:=slD_none (fun i=>48+d10 p.natAbs (Lt - 1 - i)) Lt (fun k _=>(txt_no _ _ _).1) Lt (Nat.le_refl _)
   have b2:=bts_cut b1 0 Lt (Nat.zero_le _) (Nat.le_refl _) (g:=fun i=>48+d10 p.natAbs (Lt - 1 - i)) (fun k hk=>by rw [Nat.zero_add])
   refine (parse_mn s (s.extract 1 s.size) ((s.extract 1 s.size).extract 0 Lt) (fun i=>48+d10 p.natAbs (Lt - 1 - i)) (fun i=>48+d10 p.natAbs (Lt - 1 - i)) Lt p.natAbs w (by omega) (by omega) ?_ rfl (by rw [e1];exact b1) (by rw [e1];exact hsl) rfl b2 okt nut (by omega) (by omega)).mono ?_
   ·rw [b0.2 0 (by omega)];rfl
   ·rintro e w' ⟨r,rfl,hr,hb⟩
    refine⟨r,rfl,?_,hb⟩
    rw [show p = -((p.natAbs:Nat):Int) by omega]
    simpa using hr
  ·rw [if_neg (by omega)] at hs
   subst hs
   have hsl:=slD_none (fun i=>48+d10 p.natAbs (Lt - 1 - i)) Lt (fun k _=>(txt_no _ _ _).1) Lt (Nat.le_refl _)
   have b2:=bts_cut bt 0 Lt (Nat.zero_le _) (Nat.le_refl _) (g:=fun i=>48+d10 p.natAbs (Lt - 1 - i)) (fun k hk=>by rw [Nat.zero_add])
   refine (parse_pn s (s.extract 0 Lt) (fun i=>48+d10 p.natAbs (Lt - 1 - i)) (fun i=>48+d10 p.natAbs (Lt - 1 - i)) Lt p.natAbs w (by omega) (fun h0=>?_) (by rw [hts];exact bt) (by rw [hts];exact hsl) rfl b2 okt nut (by omega)).mono ?_
   ·rw [bt.2 0 h0];exact (txt_no _ _ _).2
   ·rintro e w' ⟨r,rfl,hr,hb⟩
    refine⟨r,rfl,?_,hb⟩
    rw [show p=((p.natAbs:Nat):Int) by omega]
    simpa using hr
 ·have bu:Bts u Lu (fun i=>48+d10 d (Lu - 1 - i)):=⟨hus,hub⟩
  have oku:=okD_txt hLu hD.lt
  have nuu:=numD_txt hLu
  have h4u:Lu≤4000:=oku.2.1
  have btu:=bts_append bt (bts_append (bts_one 47) bu)
  rcases (by omega:p<0∨0≤p) with hneg | hge
  ·rw [if_pos hneg,ByteArray.append_assoc] at hs
   have b0:Bts s (1+(Lt+(1+Lu))) _:=hs ▸ bts_append (bts_one 45) btu
   have hsz:s.size=1+(Lt+(1+Lu)):=b0.1
   have b1:=bts_cut b0 1 (1+(Lt+(1+Lu))) (by omega) (Nat.le_refl _) (g:=fun i=>if i<Lt then 48+d10 p.natAbs (Lt - 1 - i) else if i - Lt<1 then 47 else 48+d10 d (Lu - 1 - (i - Lt - 1))) (fun k hk=>by
    rw [if_neg (by omega),show 1+k - 1=k by omega]
    rfl)
   rw [show 1+(Lt+(1+Lu)) - 1=Lt+(1+Lu) by omega,←hsz] at b1
   have e1:(s.extract 1 s.size).size=Lt+(1+Lu):=b1.1
   have hsl:=slD_first (fun i=>if i<Lt then 48+d10 p.natAbs (Lt - 1 - i) else if i - Lt<1 then 47 else 48+d10 d (Lu - 1 - (i - Lt - 1))) (Lt+(1+Lu)) Lt (by omega) (by rw [if_neg (by omega),if_pos (by omega)]) (fun k hk=>by rw [if_pos hk];exact (txt_no _ _ _).1) (Lt+(1+Lu)) (Nat.le_refl _) (by omega)
   have b2:=bts_cut b1 0 Lt (Nat.zero_le _) (by omega) (g:=fun i=>48+d10 p.natAbs (Lt - 1 - i)) (fun k hk=>by rw [Nat.zero_add,if_pos (by omega)])
   have b3:=bts_cut b1 (Lt+1) (Lt+(1+Lu)) (by omega) (Nat.le_refl _) (g:=fun i=>48+d10 d (Lu - 1 - i)) (fun k hk=>by rw [if_neg (by omega),if_neg (by omega),show Lt+1+k - Lt - 1=k by omega])
   rw [show Lt+(1+Lu) - (Lt+1)=Lu by omega] at b3
   refine (parse_ms s (s.extract 1 s.size) ((s.extract 1 s.size).extract 0 Lt) ((s.extract 1 s.size).extract (Lt+1) (Lt+(1+Lu))) _ (fun i=>48+d10 p.natAbs (Lt - 1 - i)) (fun i=>48+d10 d (Lu - 1 - i)) Lt p.natAbs Lu d w (by omega) (by omega) ?_ rfl (by rw [e1];exact b1) (by rw [e1];exact hsl) rfl b2 okt nut (by omega) (by rw [e1]) b3 oku nuu (by omega) hg (by omega)).mono ?_
   ·rw [b0.2 0 (by omega)];rfl
   ·rintro e w' ⟨r,rfl,hr,hb⟩
    refine⟨r,rfl,?_,hb⟩
    rw [show p = -((p.natAbs:Nat):Int) by omega]
    simpa using hr
  ·rw [if_neg (by omega)] at hs
   have b1:Bts s (Lt+(1+Lu)) (fun i=>if i<Lt then 48+d10 p.natAbs (Lt - 1 - i) else if i - Lt<1 then 47 else 48+d10 d (Lu - 1 - (i - Lt - 1))):=hs ▸ btu
   have hsz:s.size=Lt+(1+Lu):=b1.1
   have hsl:=slD_first (fun i=>if i<Lt then 48+d10 p.natAbs (Lt - 1 - i) else if i - Lt<1 then 47 else 48+d10 d (Lu - 1 - (i - Lt - 1))) (Lt+(1+Lu)) Lt (by omega) (by rw [if_neg (by omega),if_pos (by omega)]) (fun k hk=>by rw [if_pos hk];exact (txt_no _ _ _).1) (Lt+(1+Lu)) (Nat.le_refl _) (by omega)
   have b2:=bts_cut b1 0 Lt (Nat.zero_le _) (by omega) (g:=fun i=>48+d10 p.natAbs (Lt - 1 - i)) (fun k hk=>by rw [Nat.zero_add,if_pos (by omega)])
   have b3:=bts_cut b1 (Lt+1) (Lt+(1+Lu)) (by omega) (Nat.le_refl _) (g:=fun i=>48+d10 d (Lu - 1 - i)) (fun k hk=>by rw [if_neg (by omega),if_neg (by omega),show Lt+1+k - Lt - 1=k by omega])
   rw [show Lt+(1+Lu) - (Lt+1)=Lu by omega] at b3
   refine (parse_ps s (s.extract 0 Lt) (s.extract (Lt+1) (Lt+(1+Lu))) _ (fun i=>48+d10 p.natAbs (Lt - 1 - i)) (fun i=>48+d10 d (Lu - 1 - i)) Lt p.natAbs Lu d w (by omega) (fun h0=>?_) (by rw [hsz];exact b1) (by rw [hsz];exact hsl) rfl b2 okt nut (by omega) (by rw [hsz]) b3 oku nuu (by omega) hg).mono ?_
   ·rw [b1.2 0 h0];dsimp only;rw [if_pos (by omega)];exact (txt_no _ _ _).2
   ·rintro e w' ⟨r,rfl,hr,hb⟩
    refine⟨r,rfl,?_,hb⟩
    rw [show p=((p.natAbs:Nat):Int) by omega]
    simpa using hr
end Go.Proofs.YtgmopcncbpdniaaGreat
namespace Go.Proofs.YtgmopcncbpdniaaGreat
open Go.RowKit
attribute [local go_sem ↓] Go.wp_at_zero Go.wp_at_succ
structure IsMkt (w:World) (b n:Nat) (cash:Nat→Int) (d:Nat→Nat→Int) (vc vd vt:Value):Prop where
 c0:w.cell? ⟨b,0,none⟩=some (.int .i64 (n:Nat))
 c1:w.cell? ⟨b,1,none⟩=some vc
 c2:w.cell? ⟨b,2,none⟩=some vd
 c3:w.cell? ⟨b,3,none⟩=some vt
 hcash:Ints w vc n cash
 hdebt:Mat w vd n (fun _=>n) d
 htot:Ints w vt n (fun i=>sumF (d i) n)
 lt:b<w.heap.size
theorem IsMkt.mono {w w':World} {b n:Nat} {cash:Nat→Int} {d:Nat→Nat→Int} {vc vd vt:Value} {B:Nat} (h:IsMkt w b n cash d vc vd vt) (hb:Below B w w') (hB:w.heap.size≤B):IsMkt w' b n cash d vc vd vt:=
 have k:∀ o,w'.cell? ⟨b,o,none⟩=w.cell? ⟨b,o,none⟩:=fun o=>hb.cell (p:=⟨b,o,none⟩) (Nat.lt_of_lt_of_le h.lt hB)
 ⟨(k 0).trans h.c0,(k 1).trans h.c1,(k 2).trans h.c2,(k 3).trans h.c3,h.hcash.mono hb hB,h.hdebt.mono hb hB,h.htot.mono hb hB,Nat.lt_of_lt_of_le h.lt hb.size⟩
def shareQ (t x:Int):Rat:=if t=0 then 0 else (x:Rat) / (t:Rat)
theorem bel1 {w w':World} {B:Nat} {b o:Nat} {v:Value} (hb:Below B w w') (h:w.cell? ⟨b,o,none⟩=some v) (hB:b<B):w'.cell? ⟨b,o,none⟩=some v:=(hb.cell (p:=⟨b,o,none⟩) hB).trans h
set_option maxHeartbeats 2000000 in
theorem share_any (b n i j:Nat) (cash:Nat→Int) (d:Nat→Nat→Int) (vc vd vt:Value) (w:World) (hm:IsMkt w b n cash d vc vd vt) (hi:i<n) (hj:j<n)
  (hd0:0≤d i j) (hd1:d i j≤1000) (ht0:0≤sumF (d i) n) (ht1:sumF (d i) n≤100000) :
  Calls Tryz.prog 86 #[.pointer (some ⟨b,0,none⟩),.int .i64 (i:Nat),.int .i64 (j:Nat)] w fun e w'=>∃ r,e = .returned r∧RatIs w' r (shareQ (sumF (d i) n) (d i j)) 4∧Below w.heap.size w w':=by
 obtain⟨c0,c1,c2,c3,hcash,⟨da,db,d_o,dc,ra,rb,ro,rc,rfl,hdm⟩,⟨ta,tb,t_o,tc,rfl,hts⟩,hlt⟩:=hm
 have ixt:=fun W=>ixI hts i tc hi W
 have ixd:=fun W=>ixM hdm.top i dc hi W
 have ixe:=fun W=>ixI (hdm.row i hi) j (rc i) hj W
 have hct:=hts.cell i hi
 have hcd:=hdm.top.cell i hi
 have hce:=(hdm.row i hi).cell j hj
 have hlt1:=hts.lt (by omega)
 have hlt2:=hdm.top.lt (by omega)
 have hlt3:=(hdm.row i hi).lt (by omega)
 simp only [ic] at hct hce
 generalize hT:sumF (d i) n=T at *
 generalize hX:d i j=X at *
 clear hT hX hcash c0 c1
 have keepS:Hid (∀ w',Below w.heap.size w w'→w'.cell? ⟨b,2,none⟩=some (.slice da n dc)∧w'.cell? ⟨b,3,none⟩=some (.slice ta n tc)∧w'.cell? ⟨tb,t_o+i,none⟩=some (.int .i64 T)∧w'.cell? ⟨db,d_o+i,none⟩=some (.slice (ra i) n (rc i))∧w'.cell? ⟨rb i,ro i+j,none⟩=some (.int .i64 X)):=
  Lib.hid (fun w' hb=>⟨bel1 hb c2 hlt,bel1 hb c3 hlt,bel1 hb hct hlt1,bel1 hb hcd hlt2,bel1 hb hce hlt3⟩)
 have KW:Hid (Below w.heap.size w (w.alloc (Obj.cells #[.bool false,.slice none 0 0,.bool false,.slice none 0 0] 92))):=boxes1 w _
 have PO:Hid (Own4 (w.alloc (Obj.cells #[.bool false,.slice none 0 0,.bool false,.slice none 0 0] 92)) w.heap.size (.bool false) (.slice none 0 0) (.bool false) (.slice none 0 0)):=own4_new _ _ rfl _ _ _ _ _
 clear hts hdm c2 c3 hct hcd hce
 obtain⟨c2,c3,hct,hcd,hce⟩:=keepS.out _ KW.out
 by_cases h0:T=0
 ·have d0:(T == 0)=true:=by simpa using h0
  have H0:=Lib.hid h0
  clear h0
  go_enter Tryz.func86,Tryz.ntmps86
  go_wp2_with (first
   | (go_at_call 59;(with_reducible refine (rat_whole 0 (by omega) (by omega) _).mono ?_);rintro e w1 ⟨r1,rfl,hr1,hb1⟩;obtain⟨s1,a1,n1,c1,b1,m1,d1,rfl,KR⟩:=hr1.shape;clear hr1;have KW:=Lib.hid (KW.out.trans (hb1.mono KW.out.size));have PO:=Lib.hid (PO.out.below hb1 PO.out.lt);obtain⟨x0,x1,x2,x3,xf,xl⟩:=PO.out))
  refine bodyPost_ret (v:=.agg #[.bool s1,.slice a1 n1 c1,.bool false,.slice b1 m1 d1]) (by simp [results,Tryz.results86,go_sem,x0,x1,x2,x3,xf]) rfl ?_
  refine⟨_,rfl,RatIs.into (RatIs.le (m:=2) (by rw [shareQ,if_pos H0.out];exact KR.out) (by omega)) _ _ _ _ PO.out,below_set4 KW.out (by omega) _ _ _ _⟩
 ·have d0:(T == 0)=false:=by simpa using h0
  have HP:Hid (0<((T:Int):Rat).num):=Lib.hid (by rw [Rat.num_intCast];omega)
  have HQ:Hid ((X:Rat) / (T:Rat)=shareQ T X):=Lib.hid (by rw [shareQ,if_neg h0])
  clear h0
  go_enter Tryz.func86,Tryz.ntmps86
  go_wp2
  have KW0:=KW
  have KW:=Lib.hid KW.out.drew
  have PO:=Lib.hid PO.out.drew
  go_region_held3 (fun w'=>w'.cell? ⟨b,2,none⟩=some (.slice da n dc)∧w'.cell? ⟨b,3,none⟩=some (.slice ta n tc)∧w'.cell? ⟨tb,t_o+i,none⟩=some (.int .i64 T)∧w'.cell? ⟨db,d_o+i,none⟩=some (.slice (ra i) n (rc i))∧w'.cell? ⟨rb i,ro i+j,none⟩=some (.int .i64 X))
   (first | (with_reducible exact keepS.out _ KW0.out) | (with_reducible exact keepS.out _ KW.out) | (with_reducible exact keepS.out _ (below_set4 KW.out (Nat.le_refl _) _ _ _ _)))
   (first
   | (go_at_call 59;(with_reducible refine (rat_whole X (by omega) (by omega) _).mono ?_);rintro e w1 ⟨r1,rfl,hr1,hb1⟩;(try have K2:=Lib.hid (K2.out.mono hb1 (Nat.le_refl _)));obtain⟨s1,a1,n1,c1,b1,m1,d1,rfl,K1⟩:=hr1.shape;clear hr1;have KW:=Lib.hid (KW.out.trans (hb1.mono KW.out.size));have PO:=Lib.hid (PO.out.below hb1 PO.out.lt))
   | (go_at_call 59;(with_reducible refine (rat_whole T (by omega) (by omega) _).mono ?_);rintro e w2 ⟨r2,rfl,hr2,hb2⟩;(try have K1:=Lib.hid (K1.out.mono hb2 (Nat.le_refl _)));obtain⟨s2,a2,n2,e2,b2,m2,d2,rfl,K2⟩:=hr2.shape;clear hr2;have KW:=Lib.hid (KW.out.trans (hb2.mono KW.out.size));have PO:=Lib.hid (PO.out.below hb2 PO.out.lt))
   | (go_at_call 122;(with_reducible refine (rat_div _ _ (X:Rat) (T:Rat) 2 _ K1.out K2.out HP.out (by omega) (by omega)).mono ?_);rintro e w3 ⟨r3,rfl,hr3,hb3⟩;rw [HQ.out] at hr3;obtain⟨s3,a3,n3,c3',b3,m3,d3,rfl,KR⟩:=hr3.shape;clear hr3;have KW:=Lib.hid (KW.out.trans (hb3.mono KW.out.size));have PO:=Lib.hid (PO.out.below hb3 PO.out.lt);obtain⟨x0,x1,x2,x3,xf,xl⟩:=PO.out))
  all_goals (try go_wp2)
  all_goals
   refine bodyPost_ret (v:=.agg #[.bool s3,.slice a3 n3 c3',.bool false,.slice b3 m3 d3]) (by simp [results,Tryz.results86,go_sem,x0,x1,x2,x3,xf]) rfl ?_
   exact⟨_,rfl,RatIs.into KR.out _ _ _ _ PO.out,below_set4 KW.out (by omega) _ _ _ _⟩
end Go.Proofs.YtgmopcncbpdniaaGreat
namespace Go.Proofs.YtgmopcncbpdniaaGreat
def sumQ (f:Nat→Rat):Nat→Rat
 | 0=>0
 | n+1=>sumQ f n+f n
theorem sumQ_congr {f g:Nat→Rat} : ∀ n,(∀ i,i<n→f i=g i)→sumQ f n=sumQ g n
 | 0,_=>rfl
 | n+1,h=>by simp only [sumQ];rw [sumQ_congr n (fun i hi=>h i (by omega)),h n (by omega)]
theorem sumQ_add (f g:Nat→Rat):∀ n,sumQ (fun i=>f i+g i) n=sumQ f n+sumQ g n
 | 0=>by simp only [sumQ];grind
 | n+1=>by simp only [sumQ];rw [sumQ_add f g n];grind
theorem sumQ_mul (c:Rat) (f:Nat→Rat):∀ n,sumQ (fun i=>c*f i) n=c*sumQ f n
 | 0=>by simp only [sumQ];grind
 | n+1=>by simp only [sumQ];rw [sumQ_mul c f n];grind
theorem sumQ_sub (f g:Nat→Rat):∀ n,sumQ (fun i=>f i - g i) n=sumQ f n - sumQ g n
 | 0=>by simp only [sumQ];grind
 | n+1=>by simp only [sumQ];rw [sumQ_sub f g n];grind
theorem sumQ_zero:∀ n,sumQ (fun _=>0) n=0
 | 0=>rfl
 | n+1=>by simp only [sumQ];rw [sumQ_zero n];grind
theorem sumQ_eq_zero {f:Nat→Rat} (n:Nat) (h:∀ i,i<n→f i=0):sumQ f n=0:=(sumQ_congr n h).trans (sumQ_zero n)
theorem sumQ_le {f g:Nat→Rat} : ∀ n,(∀ i,i<n→f i≤g i)→sumQ f n≤sumQ g n
 | 0,_=>by simp only [sumQ];grind
 | n+1,h=>by
  have h1:=sumQ_le n (fun i hi=>h i (by omega))
  have h2:=h n (by omega)
  simp only [sumQ];grind
theorem sumQ_nonneg {f:Nat→Rat} (n:Nat) (h:∀ i,i<n→0≤f i):0≤sumQ f n:=by
 have:=sumQ_le (f:=fun _=>0) (g:=f) n h
 rwa [sumQ_zero] at this
theorem sumQ_le_eq {f g:Nat→Rat} : ∀ n,(∀ i,i<n→f i≤g i)→sumQ g n≤sumQ f n→∀ i,i<n→f i=g i
 | 0,_,_=>fun i hi=>by omega
 | n+1,h,h2=>fun i hi=>by
  have h1:=sumQ_le n (fun i hi=>h i (by omega))
  have h3:=h n (by omega)
  simp only [sumQ] at h2
  by_cases e:i=n
  ·subst e;grind
  ·exact sumQ_le_eq n (fun i hi=>h i (by omega)) (by grind) i (by omega)
theorem sumQ_swap (f:Nat→Nat→Rat) (m:Nat):∀ n,sumQ (fun i=>sumQ (fun j=>f i j) m) n=sumQ (fun j=>sumQ (fun i=>f i j) n) m
 | 0=>by simp only [sumQ];rw [sumQ_zero]
 | n+1=>by
  simp only [sumQ]
  rw [sumQ_swap f m n,sumQ_add]
theorem sumQ_one (f:Nat→Rat) (k:Nat):∀ n,k<n→(∀ i,i<n→i≠k→f i=0)→sumQ f n=f k
 | 0,h,_=>by omega
 | n+1,h,hz=>by
  simp only [sumQ]
  by_cases e:k=n
  ·subst e
   rw [sumQ_eq_zero k (fun i hi=>hz i (by omega) (by omega))];grind
  ·rw [sumQ_one f k n (by omega) (fun i hi=>hz i (by omega)),hz n (by omega) (by omega)];grind
structure Shr (n:Nat) (S:Nat→Nat→Rat):Prop where
 pos:∀ j i,0≤S j i
 one:∀ j,j<n→sumQ (fun i=>S j i) n≤1
def NoClosed (n:Nat) (S:Nat→Nat→Rat) (F:Nat→Prop):Prop:=
 ∀ Z:Nat→Prop,(∀ i,Z i→i<n∧F i)→(∀ j,Z j→sumQ (fun i=>S j i) n=1∧∀ i,i<n→¬ Z i→S j i=0)→∀ i,¬ Z i
theorem kernel {n:Nat} {S:Nat→Nat→Rat} {F:Nat→Prop} (hS:Shr n S) (hF:NoClosed n S F) (u:Nat→Rat) (h0:∀ i,0≤u i) (hs:∀ i,i<n→¬ F i→u i=0)
  (hle:∀ i,i<n→F i→u i≤sumQ (fun j=>u j*S j i) n):∀ i,i<n→u i=0:=by
 have hr:∀ i,i<n→u i≤sumQ (fun j=>u j*S j i) n:=fun i hi=>by
  by_cases h:F i
  ·exact hle i hi h
  ·rw [hs i hi h]
   exact sumQ_nonneg n (fun j _=>Rat.mul_nonneg (h0 j) (hS.pos j i))
 have h1:sumQ (fun i=>sumQ (fun j=>u j*S j i) n) n=sumQ (fun j=>u j*sumQ (fun i=>S j i) n) n:=by
  rw [sumQ_swap (fun i j=>u j*S j i)]
  exact sumQ_congr n (fun j _=>sumQ_mul _ _ _)
 have h2:∀ j,j<n→u j*sumQ (fun i=>S j i) n≤u j:=fun j hj=>by
  have:=Rat.mul_le_mul_of_nonneg_left (hS.one j hj) (h0 j)
  grind
 have h3:=sumQ_le n h2
 have h4:=sumQ_le n hr
 have h5:=sumQ_le_eq n hr (by grind)
 have h6:=sumQ_le_eq n h2 (by grind)
 have:=hF (fun i=>i<n∧u i≠0) (fun i hi=>⟨hi.1,Classical.byContradiction (fun h=>hi.2 (hs i hi.1 h))⟩) (fun j hj=>by
  refine⟨?_,fun i hi hn=>?_⟩
  ·have:=h6 j hj.1
   have e:=hj.2
   grind
  ·have hu:u i=0:=Classical.byContradiction (fun h=>hn ⟨hi,h⟩)
   have hz:=h5 i hi
   rw [hu] at hz
   have hz2:=sumQ_le_eq (f:=fun _=>0) (g:=fun j=>u j*S j i) n (fun j _=>Rat.mul_nonneg (h0 j) (hS.pos j i)) (by rw [sumQ_zero,←hz];exact Rat.le_refl) j hj.1
   have e:=hj.2
   grind)
 intro i hi
 exact Classical.byContradiction (fun h=>this i ⟨hi,h⟩)
def up0 (x:Rat):Rat:=if 0≤x then x else 0
theorem up0_nonneg (x:Rat):0≤up0 x:=by unfold up0;split <;> grind
theorem up0_ge (x:Rat):x≤up0 x:=by unfold up0;split <;> grind
theorem up0_le {x y:Rat} (h:x≤y) (hy:0≤y):up0 x≤y:=by unfold up0;split <;> grind
theorem up0_zero {x:Rat} (h:up0 x=0):x≤0:=by have:=up0_ge x;grind
theorem below_zero {n:Nat} {S:Nat→Nat→Rat} {F:Nat→Prop} (hS:Shr n S) (hF:NoClosed n S F) (d:Nat→Rat) (hs:∀ i,i<n→¬ F i→d i≤0)
  (hle:∀ i,i<n→F i→d i≤sumQ (fun j=>d j*S j i) n):∀ i,i<n→d i≤0:=by
 have h:=kernel hS hF (fun i=>up0 (d i)) (fun i=>up0_nonneg _) (fun i hi hn=>by
  have:=hs i hi hn
  show up0 (d i)=0
  unfold up0
  split <;> grind) (fun i hi hf=>by
  refine up0_le (Rat.le_trans (hle i hi hf) (sumQ_le n (fun j _=>Rat.mul_le_mul_of_nonneg_right (up0_ge _) (hS.pos j i)))) (sumQ_nonneg n (fun j _=>Rat.mul_nonneg (up0_nonneg _) (hS.pos j i))))
 exact fun i hi=>up0_zero (h i hi)
end Go.Proofs.YtgmopcncbpdniaaGreat
