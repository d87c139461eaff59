import Derived.Test.YtgmopcncbpdniaaGreatIShelC
import Derived.Test.YtgmopcncbpdniaaGreatIRefQs
import Derived.Deep.QuietTactic
import Derived.BigQuiet
import Derived.Test.YtgmopcncbpdniaaGreatIRat5
import Derived.Deep.RegionHeld3
set_option linter.unusedVariables false
set_option linter.unusedSimpArgs false
namespace Go.Proofs.YtgmopcncbpdniaaGreat
open Go.RowKit
attribute [local go_sem ↓] Go.wp_at_zero Go.wp_at_succ
theorem idx_none (c:UInt8):∀ l:List UInt8,(∀ i:Nat,l[i]?≠some c)→Lib.indexByte l c = -1
 | [],_=>rfl
 | b :: l,h=>by
  have h1:Lib.indexByte l c = -1:=idx_none c l (fun i=>by have:=h (i+1);simpa using this)
  have h2:(b == c)=false:=by
   have:=h 0
   simp at this
   simpa using this
  simp [Lib.indexByte,h1,h2]
theorem idx_some (c:UInt8):∀ (l:List UInt8) (k:Nat),(∀ i:Nat,i<k→l[i]?≠some c)→l[k]? = some c→Lib.indexByte l c=(k:Int)
 | [],k,_,h=>by simp at h
 | b :: l,0,_,h=>by
  simp at h
  simp [Lib.indexByte,h]
 | b :: l,k+1,h,hk=>by
  have h1:Lib.indexByte l c=(k:Int):=idx_some c l k (fun i hi=>by have:=h (i+1) (by omega);simpa using this) (by simpa using hk)
  have h2:(b == c)=false:=by
   have:=h 0 (by omega)
   simp at this
   simpa using this
  have h3:¬ ((k:Int) = -1):=by omega
  simp [Lib.indexByte,h1,h2,h3]
def SlAt (L:Nat) (f:Nat→Nat) (k:Nat):Prop:=k≤L∧(∀ i,i<k→f i≠47)∧(k<L→f k=47)
theorem bts_get {s:ByteArray} {L:Nat} {f:Nat→Nat} (h:Bts s L f) (i:Nat) (hi:i<L):∃ b:UInt8,s.data.toList[i]? = some b∧b.toNat=f i:=by
 obtain⟨rfl,h2⟩:=h
 refine⟨s[i],?_,h2 i hi⟩
 have h3:i<s.data.toList.length:=by rw [Array.length_toList];exact hi
 rw [List.getElem?_eq_getElem h3]
 rfl
theorem idx_of {s:ByteArray} {L k:Nat} {f:Nat→Nat} (h:Bts s L f) (hk:SlAt L f k):Lib.indexByte s.data.toList 47=if k<L then (k:Int) else -1:=by
 have hb:∀ i:Nat,i<k→s.data.toList[i]?≠some 47:=fun i hi e=>by
  obtain⟨b,h1,h2⟩:=bts_get h i (by have:=hk.1;omega)
  rw [e] at h1
  have:(47:UInt8)=b:=Option.some.inj h1
  subst this
  exact hk.2.1 i hi h2.symm
 by_cases e:k<L
 ·rw [if_pos e]
  obtain⟨b,h1,h2⟩:=bts_get h k e
  refine idx_some 47 _ k hb ?_
  rw [h1]
  congr 1
  rw [hk.2.2 e] at h2
  exact UInt8.toNat_inj.1 h2
 ·rw [if_neg e]
  refine idx_none 47 _ (fun i=>?_)
  by_cases hi:i<L
  ·exact hb i (by omega)
  ·have:s.data.toList.length≤i:=by rw [Array.length_toList];have:=h.1;show s.size≤i;omega
   rw [List.getElem?_eq_none this];simp
set_option maxHeartbeats 2000000 in
set_option maxRecDepth 100000 in
theorem slcut_any (s:ByteArray) (L k:Nat) (f:Nat→Nat) (w:World) (hs:Bts s L f) (hL:L≤1000000) (hk:SlAt L f k) :
  Calls Tryz.prog 132 #[.string s,.string ⟨#[47]⟩] w fun e w'=>e = .returned (.tuple #[.string (s.extract 0 k),.string (if k<L then s.extract (k+1) L else ⟨#[]⟩),.bool (decide (k<L))])∧Drawn w w':=by
 have hi:=idx_of hs hk
 have HKL:=Lib.hid hk.1
 obtain⟨rfl,-⟩:=hs
 clear hk
 by_cases e:k<s.size
 ·rw [if_pos e] at hi
  rw [if_pos e,decide_eq_true e]
  have HI:=Lib.hid hi
  have q0:(0:Int)≤(k:Int):=by omega
  have q1:(k:Int)≤(s.size:Int):=by omega
  have q2:(k:Int)+1≤(s.size:Int):=by omega
  have hsz:(⟨#[47]⟩:ByteArray).size=1:=rfl
  clear hi
  go_enter Tryz.func132,Tryz.ntmps132
  go_wp2_with (first | (go_at_call 144;(with_reducible refine (Tryz.stringslite_Index_one s 47 _).mono ?_);rintro e1 w1 ⟨rfl,rfl⟩;rw [HI.out]))
  go_quiet (fail)
  go_wp2
  refine bodyPost_ret (v:=.tuple #[.string (s.extract 0 k),.string (s.extract (k+1) s.size),.bool true]) (by simp [results,Tryz.results132,go_sem]) rfl ?_
  exact⟨rfl,Drawn.of _ _⟩
 ·rw [if_neg e] at hi
  rw [if_neg e,decide_eq_false e]
  have HI:=Lib.hid hi
  have hks:k=s.size:=by have:=HKL.out;omega
  have hex:s.extract 0 k=s:=by rw [hks];exact ByteArray.extract_zero_size
  rw [hex]
  clear hi hex
  go_enter Tryz.func132,Tryz.ntmps132
  go_wp2_with (first | (go_at_call 144;(with_reducible refine (Tryz.stringslite_Index_one s 47 _).mono ?_);rintro e1 w1 ⟨rfl,rfl⟩;rw [HI.out]))
  refine bodyPost_ret (v:=.tuple #[.string s,.string ⟨#[]⟩,.bool false]) (by simp [results,Tryz.results132,go_sem]) rfl ?_
  exact⟨rfl,Drawn.refl _⟩
theorem cut_slash (s:ByteArray) (L k:Nat) (f:Nat→Nat) (w:World) (hs:Bts s L f) (hL:L≤1000000) (hk:SlAt L f k) :
  Calls Tryz.prog 102 #[.string s,.string ⟨#[47]⟩] w fun e w'=>e = .returned (.tuple #[.string (s.extract 0 k),.string (if k<L then s.extract (k+1) L else ⟨#[]⟩),.bool (decide (k<L))])∧Drawn w w':=by
 have HS:=Lib.hid hs
 have HK:=Lib.hid hk
 obtain⟨t,ht⟩:∃ t,t=(if k<L then s.extract (k+1) L else ⟨#[]⟩):=⟨_,rfl⟩
 obtain⟨b,hb⟩:∃ b,b=decide (k<L):=⟨_,rfl⟩
 have HT:=Lib.hid ht
 have HB:=Lib.hid hb
 rw [←ht,←hb]
 clear hs hk ht hb
 go_enter Tryz.func102,Tryz.ntmps102
 go_wp2_with (first | (go_at_call 132;(with_reducible refine (slcut_any s L k f _ HS.out hL HK.out).mono ?_);rintro e1 w1 ⟨rfl,hd1⟩;rw [←HT.out,←HB.out]))
 refine bodyPost_ret (v:=.tuple #[.string (s.extract 0 k),.string t,.bool b]) (by simp [results,Tryz.results102,go_sem]) rfl ?_
 exact⟨rfl,hd1⟩
end Go.Proofs.YtgmopcncbpdniaaGreat
namespace Go.Proofs.YtgmopcncbpdniaaGreat
open Go.RowKit
attribute [local go_sem ↓] Go.wp_at_zero Go.wp_at_succ
theorem pre_yes {s t:ByteArray} (h:s=⟨#[45]⟩ ++ t):Lib.hasPrefix s.data.toList [45]=true∧(⟨(Lib.trimPrefix s.data.toList [45]).toArray⟩:ByteArray)=t:=by
 have e:s.data.toList=45 :: t.data.toList:=by subst h;simp
 have h1:Lib.hasPrefix s.data.toList [45]=true:=by rw [e];simp [Lib.hasPrefix,List.isPrefixOf]
 refine⟨h1,?_⟩
 unfold Lib.trimPrefix
 rw [if_pos h1,e]
 simp
theorem pre_no {s:ByteArray} (h:s.data.toList[0]?≠some 45):Lib.hasPrefix s.data.toList [45]=false∧(⟨(Lib.trimPrefix s.data.toList [45]).toArray⟩:ByteArray)=s:=by
 have h1:Lib.hasPrefix s.data.toList [45]=false:=by
  unfold Lib.hasPrefix
  cases e:s.data.toList with
  | nil=>rfl
  | cons a l=>
   rw [e] at h
   simp at h
   simp [List.isPrefixOf]
   exact fun q=>h q.symm
 refine⟨h1,?_⟩
 unfold Lib.trimPrefix
 rw [if_neg (by rw [h1];decide)]
theorem rat_parts {w:World} {u d:Value} {q:Rat} {X m:Nat} {mn:Bool} (hn:q.num=if mn then -(X:Int) else X) (hm:mn=true→0<X) (h1:Mag w u X) (h2:Mag w d q.den) (hX:nl X≤m) (hD:nl q.den≤m) :
  RatIs w (.agg #[.bool mn,u,.bool false,d]) q m:=by
 have e1:decide (q.num<0)=mn:=by
  rw [hn]
  cases mn with
  | true=>have:=hm rfl;simp;omega
  | false=>simp
 have e2:q.num.natAbs=X:=by
  rw [hn]
  cases mn <;> simp
 exact⟨u,d,by rw [e1],by rw [e2];exact h1,h2,by rw [e2];exact hX,hD⟩
set_option maxHeartbeats 8000000 in
set_option maxRecDepth 100000 in
theorem npar_whole (s t:ByteArray) (L Lt X:Nat) (f ft:Nat→Nat) (mn:Bool) (q:Rat) (w:World) (hs:Bts s L f) (hL:L≤1000000) (hk:SlAt L f L) (hpre:Lib.hasPrefix (s.extract 0 L).data.toList [45]=mn) (htr:(⟨(Lib.trimPrefix (s.extract 0 L).data.toList [45]).toArray⟩:ByteArray)=t)
  (ht:Bts t Lt ft) (hok:okD Lt ft) (hX:numD Lt ft=X) (hm:mn=true→0<X) (hXn:nl X≤4000) (hq:q.num=if mn then -(X:Int) else X) (hd:q.den=1) :
  Calls Tryz.prog 65 #[.string s] w fun e w'=>∃ r,e = .returned (.tuple #[r,.bool true])∧RatIs w' r q 4000∧Below w.heap.size w w':=by
 have HS:=Lib.hid hs
 have HK:=Lib.hid hk
 have HP:=Lib.hid hpre
 have HT:=Lib.hid htr
 have HBT:=Lib.hid ht
 have HOK:=Lib.hid hok
 have HX:=Lib.hid hX
 have HM:=Lib.hid hm
 have HQ:=Lib.hid hq
 have HD:=Lib.hid hd
 have RO0:=Lib.hid (own4_new w w.heap.size rfl (.bool false) (.slice none 0 0) (.bool false) (.slice none 0 0) 92)
 have KW0:=Lib.hid (boxes1 w (.cells #[.bool false,.slice none 0 0,.bool false,.slice none 0 0] 92))
 clear hs hk hpre htr ht hok hX hm hq hd
 go_enter Tryz.func65,Tryz.ntmps65
 go_wp2_with fail
 generalize w.alloc (.cells #[.bool false,.slice none 0 0,.bool false,.slice none 0 0] 92)=wb at *
 refine (cut_slash s L L f _ HS.out hL HK.out).mono ?_
 rintro e w1 ⟨rfl,hd1⟩
 rw [if_neg (Nat.lt_irrefl _),decide_eq_false (Nat.lt_irrefl _)]
 have KW:=Lib.hid (KW0.out.trans ((hd1.below wb.heap.size).mono KW0.out.size))
 have RO:=Lib.hid (RO0.out.drawn hd1)
 clear hd1
 go_wp2_with fail
 refine (Tryz.strings_CutPrefix (s.extract 0 L) ⟨#[45]⟩ _).mono ?_
 rintro e w2 ⟨rfl,rfl⟩
 rw [show (⟨#[45]⟩:ByteArray).data.toList = [45] from rfl,HP.out,HT.out]
 go_wp2_with fail
 refine (nread_any t Lt ft true _ HBT.out (by have:=HOK.out.2.1;omega) ⟨fun _=>HOK.out,fun _=>rfl⟩).mono ?_
 rintro e w3 ⟨v3,rfl,hm3,hb3⟩
 rw [if_pos rfl,HX.out] at hm3
 have M3:=Lib.hid hm3
 have KW:=Lib.hid (KW.out.trans (hb3.mono KW.out.size))
 have RO:=Lib.hid (RO.out.below hb3 RO.out.lt)
 obtain⟨a3,b3,o3,c3,rfl,i3⟩:=hm3
 clear hb3 i3
 rcases mn with _ | _
 ·have HQ:Hid (q.num=(X:Int)):=HQ
  have L1:=Lib.hid (limb_new w3 1 (by omega))
  have K1:=Lib.hid (boxes1 w3 (.cells #[.int .u32 ((1:Nat):Int)] 145))
  have hT:trimN (fun _=>1) 1=1:=by decide
  rw [hT] at L1
  have M3:=Lib.hid (M3.out.mono K1.out (Nat.le_refl _))
  have RO:=Lib.hid (RO.out.below K1.out RO.out.lt)
  have KW:=Lib.hid (KW.out.trans (K1.out.mono KW.out.size))
  clear K1 hT
  go_wp2_with fail
  refine (made_any _ false X _ M3.out).mono ?_
  rintro e w4 ⟨rfl,hm4,hb4⟩
  have M4:=Lib.hid hm4
  have L4:=Lib.hid (L1.out.mono hb4 (Nat.le_refl _))
  have RO:=Lib.hid (RO.out.below hb4 RO.out.lt)
  have KW:=Lib.hid (KW.out.trans (hb4.mono KW.out.size))
  clear hm4 hb4
  go_wp2_with fail
  refine (made_any _ false 1 _ L4.out).mono ?_
  rintro e w5 ⟨rfl,hm5,hb5⟩
  have M5:=Lib.hid (M4.out.mono hb5 (Nat.le_refl _))
  have L5:=Lib.hid hm5
  have RO:=Lib.hid (RO.out.below hb5 RO.out.lt)
  have KW:=Lib.hid (KW.out.trans (hb5.mono KW.out.size))
  clear hm5 hb5 L4 M4 L1 M3
  go_wp2_with fail
  have RN:=Lib.hid (own4_new w5 w5.heap.size rfl (.bool false) (.slice a3 (nl X) c3) (.bool false) (.slice (some ⟨w3.heap.size,0,none⟩) 1 1) 92)
  have K5:=Lib.hid (boxes1 w5 (.cells #[.bool false,.slice a3 (nl X) c3,.bool false,.slice (some ⟨w3.heap.size,0,none⟩) 1 1] 92))
  have XR:=Lib.hid (rat_parts (m:=4000) (mn:=false) (X:=X) (by rw [HQ.out];rfl) (fun e=>Bool.noConfusion e) (M5.out.mono K5.out (Nat.le_refl _)) (by rw [HD.out];exact L5.out.mono K5.out (Nat.le_refl _)) hXn (by rw [HD.out];decide))
  have RO:=Lib.hid (RO.out.below K5.out RO.out.lt)
  have KW:=Lib.hid (KW.out.trans (K5.out.mono KW.out.size))
  generalize (w5.alloc (.cells #[.bool false,.slice a3 (nl X) c3,.bool false,.slice (some ⟨w3.heap.size,0,none⟩) 1 1] 92))=w6 at *
  have x0:=RN.out.c0;have x1:=RN.out.c1;have x2:=RN.out.c2;have x3:=RN.out.c3;have xl:=RN.out.lt;have xf:=RN.out.f
  have y0:=RO.out.c0;have y1:=RO.out.c1;have y2:=RO.out.c2;have y3:=RO.out.c3;have yl:=RO.out.lt;have yf:=RO.out.f
  clear K5 L5 M5
  go_region
  all_goals
   go_wp2
   refine bodyPost_ret (v:=.tuple #[.agg #[.bool false,.slice a3 (nl X) c3,.bool false,.slice (some ⟨w3.heap.size,0,none⟩) 1 1],.bool true]) (by simp [results,Tryz.results65,go_sem,y0,y1,y2,y3,yf,yl]) rfl ?_
   exact⟨_,rfl,(RatIs.into XR.out _ _ _ _ RO.out).drew,(below_set4 KW.out (Nat.le_refl _) _ _ _ _).drew⟩
 ·have h0:0<X:=HM.out rfl
  have H0:=Lib.hid h0
  have HQ:Hid (q.num = -(X:Int)):=HQ
  have hnl:nl X≠0:=fun e=>by have:=(nl_le X 0).1 (by omega);simp at this;omega
  have e0:((nl X:Int) == 0)=false:=by simp;omega
  have dd:decide (0<X)=true:=by simpa using h0
  have L1:=Lib.hid (limb_new w3 1 (by omega))
  have K1:=Lib.hid (boxes1 w3 (.cells #[.int .u32 ((1:Nat):Int)] 145))
  have hT:trimN (fun _=>1) 1=1:=by decide
  rw [hT] at L1
  have M3:=Lib.hid (M3.out.mono K1.out (Nat.le_refl _))
  have RO:=Lib.hid (RO.out.below K1.out RO.out.lt)
  have KW:=Lib.hid (KW.out.trans (K1.out.mono KW.out.size))
  clear K1 hT
  go_wp2_with fail
  refine (made_any _ true X _ M3.out).mono ?_
  rintro e w4 ⟨rfl,hm4,hb4⟩
  have M4:=Lib.hid hm4
  have L4:=Lib.hid (L1.out.mono hb4 (Nat.le_refl _))
  have RO:=Lib.hid (RO.out.below hb4 RO.out.lt)
  have KW:=Lib.hid (KW.out.trans (hb4.mono KW.out.size))
  clear hm4 hb4
  go_wp2_with fail
  refine (made_any _ false 1 _ L4.out).mono ?_
  rintro e w5 ⟨rfl,hm5,hb5⟩
  have M5:=Lib.hid (M4.out.mono hb5 (Nat.le_refl _))
  have L5:=Lib.hid hm5
  have RO:=Lib.hid (RO.out.below hb5 RO.out.lt)
  have KW:=Lib.hid (KW.out.trans (hb5.mono KW.out.size))
  clear hm5 hb5 L4 M4 L1 M3
  go_wp2_with fail
  have RN:=Lib.hid (own4_new w5 w5.heap.size rfl (.bool true) (.slice a3 (nl X) c3) (.bool false) (.slice (some ⟨w3.heap.size,0,none⟩) 1 1) 92)
  have K5:=Lib.hid (boxes1 w5 (.cells #[.bool true,.slice a3 (nl X) c3,.bool false,.slice (some ⟨w3.heap.size,0,none⟩) 1 1] 92))
  have XR:=Lib.hid (rat_parts (m:=4000) (mn:=true) (X:=X) (by rw [HQ.out];rfl) (fun _=>H0.out) (M5.out.mono K5.out (Nat.le_refl _)) (by rw [HD.out];exact L5.out.mono K5.out (Nat.le_refl _)) hXn (by rw [HD.out];decide))
  have RO:=Lib.hid (RO.out.below K5.out RO.out.lt)
  have KW:=Lib.hid (KW.out.trans (K5.out.mono KW.out.size))
  generalize (w5.alloc (.cells #[.bool true,.slice a3 (nl X) c3,.bool false,.slice (some ⟨w3.heap.size,0,none⟩) 1 1] 92))=w6 at *
  have x0:=RN.out.c0;have x1:=RN.out.c1;have x2:=RN.out.c2;have x3:=RN.out.c3;have xl:=RN.out.lt;have xf:=RN.out.f
  have y0:=RO.out.c0;have y1:=RO.out.c1;have y2:=RO.out.c2;have y3:=RO.out.c3;have yl:=RO.out.lt;have yf:=RO.out.f
  clear K5 L5 M5
  go_region
  all_goals
   go_wp2
   refine bodyPost_ret (v:=.tuple #[.agg #[.bool true,.slice a3 (nl X) c3,.bool false,.slice (some ⟨w3.heap.size,0,none⟩) 1 1],.bool true]) (by simp [results,Tryz.results65,go_sem,y0,y1,y2,y3,yf,yl]) rfl ?_
   exact⟨_,rfl,(RatIs.into XR.out _ _ _ _ RO.out).drew,(below_set4 KW.out (Nat.le_refl _) _ _ _ _).drew⟩
end Go.Proofs.YtgmopcncbpdniaaGreat
namespace Go.Proofs.YtgmopcncbpdniaaGreat
open Go.RowKit
attribute [local go_sem ↓] Go.wp_at_zero Go.wp_at_succ
set_option maxHeartbeats 8000000 in
set_option maxRecDepth 100000 in
theorem npar_frac (s t u:ByteArray) (L p Lt Lu X D:Nat) (f ft fu:Nat→Nat) (mn:Bool) (q:Rat) (w:World) (hs:Bts s L f) (hL:L≤1000000) (hk:SlAt L f p) (hp:p<L) (hpre:Lib.hasPrefix (s.extract 0 p).data.toList [45]=mn)
  (htr:(⟨(Lib.trimPrefix (s.extract 0 p).data.toList [45]).toArray⟩:ByteArray)=t) (hu:s.extract (p+1) L=u) (ht:Bts t Lt ft) (hok:okD Lt ft) (hX:numD Lt ft=X) (hbu:Bts u Lu fu) (hoku:okD Lu fu) (hD:numD Lu fu=D) (hD1:1<D)
  (hm:mn=true→0<X) (hXn:nl X≤4000) (hDn:nl D≤4000) (hq:q.num=if mn then -(X:Int) else X) (hd:q.den=D) :
  Calls Tryz.prog 65 #[.string s] w fun e w'=>∃ r,e = .returned (.tuple #[r,.bool true])∧RatIs w' r q 4000∧Below w.heap.size w w':=by
 have HS:=Lib.hid hs
 have HK:=Lib.hid hk
 have HP:=Lib.hid hpre
 have HT:=Lib.hid htr
 have HU:=Lib.hid hu
 have HBT:=Lib.hid ht
 have HBU:=Lib.hid hbu
 have HOK:=Lib.hid hok
 have HOU:=Lib.hid hoku
 have HX:=Lib.hid hX
 have HDu:=Lib.hid hD
 have HD1:=Lib.hid hD1
 have HM:=Lib.hid hm
 have HQ:=Lib.hid hq
 have HD:=Lib.hid hd
 have HLp:=Lib.hid hp
 have RO0:=Lib.hid (own4_new w w.heap.size rfl (.bool false) (.slice none 0 0) (.bool false) (.slice none 0 0) 92)
 have KW0:=Lib.hid (boxes1 w (.cells #[.bool false,.slice none 0 0,.bool false,.slice none 0 0] 92))
 clear hs hk hpre htr ht hok hX hm hq hd hu hbu hoku hD hD1 hp
 go_enter Tryz.func65,Tryz.ntmps65
 go_wp2_with fail
 generalize w.alloc (.cells #[.bool false,.slice none 0 0,.bool false,.slice none 0 0] 92)=wb at *
 refine (cut_slash s L p f _ HS.out hL HK.out).mono ?_
 rintro e w1 ⟨rfl,hd1⟩
 rw [if_pos HLp.out,decide_eq_true HLp.out,HU.out]
 have KW:=Lib.hid (KW0.out.trans ((hd1.below wb.heap.size).mono KW0.out.size))
 have RO:=Lib.hid (RO0.out.drawn hd1)
 clear hd1
 go_wp2_with fail
 refine (Tryz.strings_CutPrefix (s.extract 0 p) ⟨#[45]⟩ _).mono ?_
 rintro e w2 ⟨rfl,rfl⟩
 rw [show (⟨#[45]⟩:ByteArray).data.toList = [45] from rfl,HP.out,HT.out]
 go_wp2_with fail
 refine (nread_any t Lt ft true _ HBT.out (by have:=HOK.out.2.1;omega) ⟨fun _=>HOK.out,fun _=>rfl⟩).mono ?_
 rintro e w3 ⟨v3,rfl,hm3,hb3⟩
 rw [if_pos rfl,HX.out] at hm3
 have M3:=Lib.hid hm3
 have KW:=Lib.hid (KW.out.trans (hb3.mono KW.out.size))
 have RO:=Lib.hid (RO.out.below hb3 RO.out.lt)
 obtain⟨a3,b3,o3,c3,rfl,i3⟩:=hm3
 clear hb3 i3
 have K1:=Lib.hid (boxes1 w3 (.cells #[.int .u32 ((1:Nat):Int)] 145))
 have M3:=Lib.hid (M3.out.mono K1.out (Nat.le_refl _))
 have RO:=Lib.hid (RO.out.below K1.out RO.out.lt)
 have KW:=Lib.hid (KW.out.trans (K1.out.mono KW.out.size))
 clear K1
 go_wp2_with fail
 generalize w3.alloc (.cells #[.int .u32 ((1:Nat):Int)] 145)=w3b at *
 refine (nread_any u Lu fu true _ HBU.out (by have:=HOU.out.2.1;omega) ⟨fun _=>HOU.out,fun _=>rfl⟩).mono ?_
 rintro e w4 ⟨v4,rfl,hm4,hb4⟩
 rw [if_pos rfl,HDu.out] at hm4
 have M3:=Lib.hid (M3.out.mono hb4 (Nat.le_refl _))
 have M4:=Lib.hid hm4
 have KW:=Lib.hid (KW.out.trans (hb4.mono KW.out.size))
 have RO:=Lib.hid (RO.out.below hb4 RO.out.lt)
 obtain⟨a4,b4,o4,c4,rfl,i4⟩:=hm4
 clear hb4 i4
 have L1:=Lib.hid (limb_new w4 1 (by omega))
 have K1:=Lib.hid (boxes1 w4 (.cells #[.int .u32 ((1:Nat):Int)] 145))
 have hT:trimN (fun _=>1) 1=1:=by decide
 rw [hT] at L1
 have M3:=Lib.hid (M3.out.mono K1.out (Nat.le_refl _))
 have M4:=Lib.hid (M4.out.mono K1.out (Nat.le_refl _))
 have RO:=Lib.hid (RO.out.below K1.out RO.out.lt)
 have KW:=Lib.hid (KW.out.trans (K1.out.mono KW.out.size))
 clear K1 hT
 go_wp2_with fail
 refine (compare_any _ _ D 1 _ M4.out L1.out (by omega) (by decide)).mono ?_
 rintro e w4c ⟨rfl,hd4⟩
 have hc1:cmpN D 1=1:=by unfold cmpN;rw [if_neg (by have:=HD1.out;omega),if_neg (by have:=HD1.out;omega)]
 rw [hc1]
 have M3:=Lib.hid (M3.out.mono (hd4.below _) (Nat.le_refl _))
 have M4:=Lib.hid (M4.out.mono (hd4.below _) (Nat.le_refl _))
 have RO:=Lib.hid (RO.out.drawn hd4)
 have KW:=Lib.hid (KW.out.trans ((hd4.below (w4.alloc (.cells #[.int .u32 ((1:Nat):Int)] 145)).heap.size).mono KW.out.size))
 clear hd4 hc1 L1
 rcases mn with _ | _
 ·have HQ:Hid (q.num=(X:Int)):=HQ
  go_wp2_with fail
  refine (made_any _ false X _ M3.out).mono ?_
  rintro e w5 ⟨rfl,hm5,hb5⟩
  have M3:=Lib.hid hm5
  have M4:=Lib.hid (M4.out.mono hb5 (Nat.le_refl _))
  have RO:=Lib.hid (RO.out.below hb5 RO.out.lt)
  have KW:=Lib.hid (KW.out.trans (hb5.mono KW.out.size))
  clear hm5 hb5
  go_wp2_with fail
  refine (made_any _ false D _ M4.out).mono ?_
  rintro e w6 ⟨rfl,hm6,hb6⟩
  have M3:=Lib.hid (M3.out.mono hb6 (Nat.le_refl _))
  have M4:=Lib.hid hm6
  have RO:=Lib.hid (RO.out.below hb6 RO.out.lt)
  have KW:=Lib.hid (KW.out.trans (hb6.mono KW.out.size))
  clear hm6 hb6
  go_wp2_with fail
  have q1:¬ w6.heap.size=w.heap.size:=by have:=RO.out.lt;omega
  have q2:¬ w.heap.size=w6.heap.size:=by omega
  have RN:=Lib.hid (own4_new w6 w6.heap.size rfl (.bool false) (.slice a3 (nl X) c3) (.bool false) (.slice a4 (nl D) c4) 92)
  have K5:=Lib.hid (boxes1 w6 (.cells #[.bool false,.slice a3 (nl X) c3,.bool false,.slice a4 (nl D) c4] 92))
  have XR:=Lib.hid (rat_parts (m:=4000) (mn:=false) (X:=X) (by rw [HQ.out];rfl) (fun e=>Bool.noConfusion e) (M3.out.mono K5.out (Nat.le_refl _)) (by rw [HD.out];exact M4.out.mono K5.out (Nat.le_refl _)) hXn (by rw [HD.out];exact hDn))
  have RO:=Lib.hid (RO.out.below K5.out RO.out.lt)
  have KW:=Lib.hid (KW.out.trans (K5.out.mono KW.out.size))
  clear K5 M3 M4
  generalize (w6.alloc (.cells #[.bool false,.slice a3 (nl X) c3,.bool false,.slice a4 (nl D) c4] 92))=w7 at *
  have x0:=RN.out.c0;have x1:=RN.out.c1;have x2:=RN.out.c2;have x3:=RN.out.c3;have xl:=RN.out.lt;have xf:=RN.out.f;have y0:=RO.out.c0;have y1:=RO.out.c1;have y2:=RO.out.c2;have y3:=RO.out.c3;have yl:=RO.out.lt;have yf:=RO.out.f
  have HG:Hid (Int.gcd q.num (q.den:Int)=1):=Lib.hid q.reduced
  have sg1:sgnZ (((1:Nat):Int) - 1)=0:=by decide
  go_region_held3 (fun w'=>w'.cell? ⟨w6.heap.size,0,none⟩=some (.bool false)∧w'.cell? ⟨w6.heap.size,1,none⟩=some (.slice a3 (nl X) c3)∧w'.cell? ⟨w6.heap.size,2,none⟩=some (.bool false)∧w'.cell? ⟨w6.heap.size,3,none⟩=some (.slice a4 (nl D) c4)) (go_keep)
   (first
   | (go_at_call 107;(with_reducible refine (int_gcd _ _ q.num (q.den:Int) 4000 _ XR.out.num.drew XR.out.den.drew (by decide)).mono ?_);rintro e w8 ⟨r8,rfl,hr8,hb8⟩;rw [HG.out] at hr8;obtain⟨a8,n8,c8,rfl,I8⟩:=hr8.shapeN;clear hr8;have RN:=Lib.hid RN.out.drew;have RO:=Lib.hid RO.out.drew;have XR:=Lib.hid XR.out.drew;have KW:=Lib.hid KW.out.drew;have RN:=Lib.hid (RN.out.below hb8 RN.out.lt);have RO:=Lib.hid (RO.out.below hb8 RO.out.lt);have XR:=Lib.hid (XR.out.mono hb8 (Nat.le_refl _));have KW:=Lib.hid (KW.out.trans (hb8.mono KW.out.size));clear x0 x1 x2 x3 xl xf y0 y1 y2 y3 yl yf;have x0:=RN.out.c0;have x1:=RN.out.c1;have x2:=RN.out.c2;have x3:=RN.out.c3;have xl:=RN.out.lt;have xf:=RN.out.f;have y0:=RO.out.c0;have y1:=RO.out.c1;have y2:=RO.out.c2;have y3:=RO.out.c3;have yl:=RO.out.lt;have yf:=RO.out.f)
   | (go_at_call 94;(with_reducible refine (int_of 1 (by omega) (by omega) _).mono ?_);rintro e w9 ⟨r9,rfl,hr9,hb9⟩;obtain⟨s9,a9,n9,c9,rfl,I9⟩:=hr9.shape;clear hr9;have I8:=Lib.hid (I8.out.mono hb9 (Nat.le_refl _));have RN:=Lib.hid (RN.out.below hb9 RN.out.lt);have RO:=Lib.hid (RO.out.below hb9 RO.out.lt);have XR:=Lib.hid (XR.out.mono hb9 (Nat.le_refl _));have KW:=Lib.hid (KW.out.trans (hb9.mono KW.out.size));clear x0 x1 x2 x3 xl xf y0 y1 y2 y3 yl yf;have x0:=RN.out.c0;have x1:=RN.out.c1;have x2:=RN.out.c2;have x3:=RN.out.c3;have xl:=RN.out.lt;have xf:=RN.out.f;have y0:=RO.out.c0;have y1:=RO.out.c1;have y2:=RO.out.c2;have y3:=RO.out.c3;have yl:=RO.out.lt;have yf:=RO.out.f)
   | (go_at_call 101;(with_reducible refine (int_cmp _ _ ((1:Nat):Int) 1 4000 _ I8.out (I9.out.le (by decide)) (by decide)).mono ?_);rintro e w10 ⟨rfl,hb10⟩;rw [sg1];have RN:=Lib.hid (RN.out.below hb10 RN.out.lt);have RO:=Lib.hid (RO.out.below hb10 RO.out.lt);have XR:=Lib.hid (XR.out.mono hb10 (Nat.le_refl _));have KW:=Lib.hid (KW.out.trans (hb10.mono KW.out.size));clear x0 x1 x2 x3 xl xf y0 y1 y2 y3 yl yf;have x0:=RN.out.c0;have x1:=RN.out.c1;have x2:=RN.out.c2;have x3:=RN.out.c3;have xl:=RN.out.lt;have xf:=RN.out.f;have y0:=RO.out.c0;have y1:=RO.out.c1;have y2:=RO.out.c2;have y3:=RO.out.c3;have yl:=RO.out.lt;have yf:=RO.out.f))
  all_goals
   go_wp2
   refine bodyPost_ret (v:=.tuple #[.agg #[.bool false,.slice a3 (nl X) c3,.bool false,.slice a4 (nl D) c4],.bool true]) (by simp [results,Tryz.results65,go_sem,y0,y1,y2,y3,yf,yl]) rfl ?_
   first
   | exact⟨_,rfl,(RatIs.into XR.out _ _ _ _ RO.out),(below_set4 KW.out (Nat.le_refl _) _ _ _ _)⟩
   | exact⟨_,rfl,(RatIs.into XR.out _ _ _ _ RO.out).drew,(below_set4 KW.out (Nat.le_refl _) _ _ _ _).drew⟩
 ·have h0:0<X:=HM.out rfl
  have H0:=Lib.hid h0
  have HQ:Hid (q.num = -(X:Int)):=HQ
  have hnl:nl X≠0:=fun e=>by have:=(nl_le X 0).1 (by omega);simp at this;omega
  have e0:((nl X:Int) == 0)=false:=by simp;omega
  have dd:decide (0<X)=true:=by simpa using h0
  go_wp2_with fail
  refine (made_any _ true X _ M3.out).mono ?_
  rintro e w5 ⟨rfl,hm5,hb5⟩
  have M3:=Lib.hid hm5
  have M4:=Lib.hid (M4.out.mono hb5 (Nat.le_refl _))
  have RO:=Lib.hid (RO.out.below hb5 RO.out.lt)
  have KW:=Lib.hid (KW.out.trans (hb5.mono KW.out.size))
  clear hm5 hb5
  go_wp2_with fail
  refine (made_any _ false D _ M4.out).mono ?_
  rintro e w6 ⟨rfl,hm6,hb6⟩
  have M3:=Lib.hid (M3.out.mono hb6 (Nat.le_refl _))
  have M4:=Lib.hid hm6
  have RO:=Lib.hid (RO.out.below hb6 RO.out.lt)
  have KW:=Lib.hid (KW.out.trans (hb6.mono KW.out.size))
  clear hm6 hb6
  go_wp2_with fail
  have q1:¬ w6.heap.size=w.heap.size:=by have:=RO.out.lt;omega
  have q2:¬ w.heap.size=w6.heap.size:=by omega
  have RN:=Lib.hid (own4_new w6 w6.heap.size rfl (.bool true) (.slice a3 (nl X) c3) (.bool false) (.slice a4 (nl D) c4) 92)
  have K5:=Lib.hid (boxes1 w6 (.cells #[.bool true,.slice a3 (nl X) c3,.bool false,.slice a4 (nl D) c4] 92))
  have XR:=Lib.hid (rat_parts (m:=4000) (mn:=true) (X:=X) (by rw [HQ.out];rfl) (fun _=>H0.out) (M3.out.mono K5.out (Nat.le_refl _)) (by rw [HD.out];exact M4.out.mono K5.out (Nat.le_refl _)) hXn (by rw [HD.out];exact hDn))
  have RO:=Lib.hid (RO.out.below K5.out RO.out.lt)
  have KW:=Lib.hid (KW.out.trans (K5.out.mono KW.out.size))
  clear K5 M3 M4
  generalize (w6.alloc (.cells #[.bool true,.slice a3 (nl X) c3,.bool false,.slice a4 (nl D) c4] 92))=w7 at *
  have x0:=RN.out.c0;have x1:=RN.out.c1;have x2:=RN.out.c2;have x3:=RN.out.c3;have xl:=RN.out.lt;have xf:=RN.out.f;have y0:=RO.out.c0;have y1:=RO.out.c1;have y2:=RO.out.c2;have y3:=RO.out.c3;have yl:=RO.out.lt;have yf:=RO.out.f
  have HG:Hid (Int.gcd q.num (q.den:Int)=1):=Lib.hid q.reduced
  have sg1:sgnZ (((1:Nat):Int) - 1)=0:=by decide
  go_region_held3 (fun w'=>w'.cell? ⟨w6.heap.size,0,none⟩=some (.bool true)∧w'.cell? ⟨w6.heap.size,1,none⟩=some (.slice a3 (nl X) c3)∧w'.cell? ⟨w6.heap.size,2,none⟩=some (.bool false)∧w'.cell? ⟨w6.heap.size,3,none⟩=some (.slice a4 (nl D) c4)) (go_keep)
   (first
   | (go_at_call 107;(with_reducible refine (int_gcd _ _ q.num (q.den:Int) 4000 _ XR.out.num.drew XR.out.den.drew (by decide)).mono ?_);rintro e w8 ⟨r8,rfl,hr8,hb8⟩;rw [HG.out] at hr8;obtain⟨a8,n8,c8,rfl,I8⟩:=hr8.shapeN;clear hr8;have RN:=Lib.hid RN.out.drew;have RO:=Lib.hid RO.out.drew;have XR:=Lib.hid XR.out.drew;have KW:=Lib.hid KW.out.drew;have RN:=Lib.hid (RN.out.below hb8 RN.out.lt);have RO:=Lib.hid (RO.out.below hb8 RO.out.lt);have XR:=Lib.hid (XR.out.mono hb8 (Nat.le_refl _));have KW:=Lib.hid (KW.out.trans (hb8.mono KW.out.size));clear x0 x1 x2 x3 xl xf y0 y1 y2 y3 yl yf;have x0:=RN.out.c0;have x1:=RN.out.c1;have x2:=RN.out.c2;have x3:=RN.out.c3;have xl:=RN.out.lt;have xf:=RN.out.f;have y0:=RO.out.c0;have y1:=RO.out.c1;have y2:=RO.out.c2;have y3:=RO.out.c3;have yl:=RO.out.lt;have yf:=RO.out.f)
   | (go_at_call 94;(with_reducible refine (int_of 1 (by omega) (by omega) _).mono ?_);rintro e w9 ⟨r9,rfl,hr9,hb9⟩;obtain⟨s9,a9,n9,c9,rfl,I9⟩:=hr9.shape;clear hr9;have I8:=Lib.hid (I8.out.mono hb9 (Nat.le_refl _));have RN:=Lib.hid (RN.out.below hb9 RN.out.lt);have RO:=Lib.hid (RO.out.below hb9 RO.out.lt);have XR:=Lib.hid (XR.out.mono hb9 (Nat.le_refl _));have KW:=Lib.hid (KW.out.trans (hb9.mono KW.out.size));clear x0 x1 x2 x3 xl xf y0 y1 y2 y3 yl yf;have x0:=RN.out.c0;have x1:=RN.out.c1;have x2:=RN.out.c2;have x3:=RN.out.c3;have xl:=RN.out.lt;have xf:=RN.out.f;have y0:=RO.out.c0;have y1:=RO.out.c1;have y2:=RO.out.c2;have y3:=RO.out.c3;have yl:=RO.out.lt;have yf:=RO.out.f)
   | (go_at_call 101;(with_reducible refine (int_cmp _ _ ((1:Nat):Int) 1 4000 _ I8.out (I9.out.le (by decide)) (by decide)).mono ?_);rintro e w10 ⟨rfl,hb10⟩;rw [sg1];have RN:=Lib.hid (RN.out.below hb10 RN.out.lt);have RO:=Lib.hid (RO.out.below hb10 RO.out.lt);have XR:=Lib.hid (XR.out.mono hb10 (Nat.le_refl _));have KW:=Lib.hid (KW.out.trans (hb10.mono KW.out.size));clear x0 x1 x2 x3 xl xf y0 y1 y2 y3 yl yf;have x0:=RN.out.c0;have x1:=RN.out.c1;have x2:=RN.out.c2;have x3:=RN.out.c3;have xl:=RN.out.lt;have xf:=RN.out.f;have y0:=RO.out.c0;have y1:=RO.out.c1;have y2:=RO.out.c2;have y3:=RO.out.c3;have yl:=RO.out.lt;have yf:=RO.out.f))
  all_goals
   go_wp2
   refine bodyPost_ret (v:=.tuple #[.agg #[.bool true,.slice a3 (nl X) c3,.bool false,.slice a4 (nl D) c4],.bool true]) (by simp [results,Tryz.results65,go_sem,y0,y1,y2,y3,yf,yl]) rfl ?_
   first
   | exact⟨_,rfl,(RatIs.into XR.out _ _ _ _ RO.out),(below_set4 KW.out (Nat.le_refl _) _ _ _ _)⟩
   | exact⟨_,rfl,(RatIs.into XR.out _ _ _ _ RO.out).drew,(below_set4 KW.out (Nat.le_refl _) _ _ _ _).drew⟩
end Go.Proofs.YtgmopcncbpdniaaGreat
