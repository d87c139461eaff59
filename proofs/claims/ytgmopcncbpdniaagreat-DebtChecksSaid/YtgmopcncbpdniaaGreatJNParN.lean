import Derived.Test.YtgmopcncbpdniaaGreatJNPar
import Derived.Test.YtgmopcncbpdniaaGreatJPlainR
set_option linter.unusedVariables false
set_option linter.unusedSimpArgs false
namespace Go.Proofs.YtgmopcncbpdniaaGreat
open Go.RowKit
attribute [local go_sem ↓] Go.wp_at_zero Go.wp_at_succ
set_option maxHeartbeats 8000000 in
set_option maxRecDepth 100000 in
theorem npar_frac (s t u:ByteArray) (L p Lt Lu X D:Nat) (f ft fu:Nat→Nat) (mn:Bool) (q:Rat) (w:World) (hs:Bts s L f) (hL:L≤1000000) (hk:SlAt L f p) (hp:p<L) (hpre:Lib.hasPrefix (s.extract 0 p).data.toList [45]=mn)
  (htr:(⟨(Lib.trimPrefix (s.extract 0 p).data.toList [45]).toArray⟩:ByteArray)=t) (hu:s.extract (p+1) L=u) (ht:Bts t Lt ft) (hok:okD Lt ft) (hX:numD Lt ft=X) (hbu:Bts u Lu fu) (hoku:okD Lu fu) (hD:numD Lu fu=D) (hD1:1<D)
  (hm:mn=true→0<X) (hXn:nl X≤4000) (hDn:nl D≤4000) (hq:q.num=if mn then -(X:Int) else X) (hd:q.den=D) :
  Calls Tryz.prog 65 #[.string s] w fun e w'=>∃ r,e = .returned (.tuple #[r,.bool true])∧RatIs w' r q 4000∧Below w.heap.size w w':=by
 have HS:=Lib.hid hs
 have HK:=Lib.hid hk
 have HP:=Lib.hid hpre
 have HT:=Lib.hid htr
 have HU:=Lib.hid hu
 have HBT:=Lib.hid ht
 have HBU:=Lib.hid hbu
 have HOK:=Lib.hid hok
 have HOU:=Lib.hid hoku
 have HX:=Lib.hid hX
 have HDu:=Lib.hid hD
 have HD1:=Lib.hid hD1
 have HM:=Lib.hid hm
 have HQ:=Lib.hid hq
 have HD:=Lib.hid hd
 have HLp:=Lib.hid hp
 have RO0:=Lib.hid (own4_new w w.heap.size rfl (.bool false) (.slice none 0 0) (.bool false) (.slice none 0 0) 92)
 have KW0:=Lib.hid (boxes1 w (.cells #[.bool false,.slice none 0 0,.bool false,.slice none 0 0] 92))
 clear hs hk hpre htr ht hok hX hm hq hd hu hbu hoku hD hD1 hp
 go_enter Tryz.func65,Tryz.ntmps65
 go_wp2_with fail
 generalize w.alloc (.cells #[.bool false,.slice none 0 0,.bool false,.slice none 0 0] 92)=wb at *
 refine (cut_slash s L p f _ HS.out hL HK.out).mono ?_
 rintro e w1 ⟨rfl,hd1⟩
 rw [if_pos HLp.out,decide_eq_true HLp.out,HU.out]
 have KW:=Lib.hid (KW0.out.trans ((hd1.below wb.heap.size).mono KW0.out.size))
 have RO:=Lib.hid (RO0.out.drawn hd1)
 clear hd1
 go_wp2_with fail
 refine (Tryz.strings_CutPrefix (s.extract 0 p) ⟨#[45]⟩ _).mono ?_
 rintro e w2 ⟨rfl,rfl⟩
 rw [show (⟨#[45]⟩:ByteArray).data.toList = [45] from rfl,HP.out,HT.out]
 go_wp2_with fail
 refine (nread_any t Lt ft true _ HBT.out (by have:=HOK.out.2.1;omega) ⟨fun _=>HOK.out,fun _=>rfl⟩).mono ?_
 rintro e w3 ⟨v3,rfl,hm3,hb3⟩
 rw [if_pos rfl,HX.out] at hm3
 have M3:=Lib.hid hm3
 have KW:=Lib.hid (KW.out.trans (hb3.mono KW.out.size))
 have RO:=Lib.hid (RO.out.below hb3 RO.out.lt)
 obtain⟨a3,b3,o3,c3,rfl,i3⟩:=hm3
 clear hb3 i3
 have K1:=Lib.hid (boxes1 w3 (.cells #[.int .u32 ((1:Nat):Int)] 145))
 have M3:=Lib.hid (M3.out.mono K1.out (Nat.le_refl _))
 have RO:=Lib.hid (RO.out.below K1.out RO.out.lt)
 have KW:=Lib.hid (KW.out.trans (K1.out.mono KW.out.size))
 clear K1
 go_wp2_with fail
 generalize w3.alloc (.cells #[.int .u32 ((1:Nat):Int)] 145)=w3b at *
 refine (nread_any u Lu fu true _ HBU.out (by have:=HOU.out.2.1;omega) ⟨fun _=>HOU.out,fun _=>rfl⟩).mono ?_
 rintro e w4 ⟨v4,rfl,hm4,hb4⟩
 rw [if_pos rfl,HDu.out] at hm4
 have M3:=Lib.hid (M3.out.mono hb4 (Nat.le_refl _))
 have M4:=Lib.hid hm4
 have KW:=Lib.hid (KW.out.trans (hb4.mono KW.out.size))
 have RO:=Lib.hid (RO.out.below hb4 RO.out.lt)
 obtain⟨a4,b4,o4,c4,rfl,i4⟩:=hm4
 clear hb4 i4
 have L1:=Lib.hid (limb_new w4 1 (by omega))
 have K1:=Lib.hid (boxes1 w4 (.cells #[.int .u32 ((1:Nat):Int)] 145))
 have hT:trimN (fun _=>1) 1=1:=by decide
 rw [hT] at L1
 have M3:=Lib.hid (M3.out.mono K1.out (Nat.le_refl _))
 have M4:=Lib.hid (M4.out.mono K1.out (Nat.le_refl _))
 have RO:=Lib.hid (RO.out.below K1.out RO.out.lt)
 have KW:=Lib.hid (KW.out.trans (K1.out.mono KW.out.size))
 clear K1 hT
 go_wp2_with fail
 refine (compare_any _ _ D 1 _ M4.out L1.out (by omega) (by decide)).mono ?_
 rintro e w4c ⟨rfl,hd4⟩
 have hc1:cmpN D 1=1:=by unfold cmpN;rw [if_neg (by have:=HD1.out;omega),if_neg (by have:=HD1.out;omega)]
 rw [hc1]
 have M3:=Lib.hid (M3.out.mono (hd4.below _) (Nat.le_refl _))
 have M4:=Lib.hid (M4.out.mono (hd4.below _) (Nat.le_refl _))
 have RO:=Lib.hid (RO.out.drawn hd4)
 have KW:=Lib.hid (KW.out.trans ((hd4.below (w4.alloc (.cells #[.int .u32 ((1:Nat):Int)] 145)).heap.size).mono KW.out.size))
 clear hd4 hc1 L1
 rcases mn with _ | _
 ·have HQ:Hid (q.num=(X:Int)):=HQ
  go_wp2_with fail
  refine (made_any _ false X _ M3.out).mono ?_
  rintro e w5 ⟨rfl,hm5,hb5⟩
  have M3:=Lib.hid hm5
  have M4:=Lib.hid (M4.out.mono hb5 (Nat.le_refl _))
  have RO:=Lib.hid (RO.out.below hb5 RO.out.lt)
  have KW:=Lib.hid (KW.out.trans (hb5.mono KW.out.size))
  clear hm5 hb5
  go_wp2_with fail
  refine (made_any _ false D _ M4.out).mono ?_
  rintro e w6 ⟨rfl,hm6,hb6⟩
  have M3:=Lib.hid (M3.out.mono hb6 (Nat.le_refl _))
  have M4:=Lib.hid hm6
  have RO:=Lib.hid (RO.out.below hb6 RO.out.lt)
  have KW:=Lib.hid (KW.out.trans (hb6.mono KW.out.size))
  clear hm6 hb6
  go_wp2_with fail
  have q1:¬ w6.heap.size=w.heap.size:=by have:=RO.out.lt;omega
  have q2:¬ w.heap.size=w6.heap.size:=by omega
  have RN:=Lib.hid (own4_new w6 w6.heap.size rfl (.bool false) (.slice a3 (nl X) c3) (.bool false) (.slice a4 (nl D) c4) 92)
  have K5:=Lib.hid (boxes1 w6 (.cells #[.bool false,.slice a3 (nl X) c3,.bool false,.slice a4 (nl D) c4] 92))
  have XR:=Lib.hid (rat_parts (m:=4000) (mn:=false) (X:=X) (by rw [HQ.out];rfl) (fun e=>Bool.noConfusion e) (M3.out.mono K5.out (Nat.le_refl _)) (by rw [HD.out];exact M4.out.mono K5.out (Nat.le_refl _)) hXn (by rw [HD.out];exact hDn))
  have RO:=Lib.hid (RO.out.below K5.out RO.out.lt)
  have KW:=Lib.hid (KW.out.trans (K5.out.mono KW.out.size))
  clear K5 M3 M4
  generalize (w6.alloc (.cells #[.bool false,.slice a3 (nl X) c3,.bool false,.slice a4 (nl D) c4] 92))=w7 at *
  have x0:=RN.out.c0;have x1:=RN.out.c1;have x2:=RN.out.c2;have x3:=RN.out.c3;have xl:=RN.out.lt;have xf:=RN.out.f;have y0:=RO.out.c0;have y1:=RO.out.c1;have y2:=RO.out.c2;have y3:=RO.out.c3;have yl:=RO.out.lt;have yf:=RO.out.f
  have HG:Hid (Int.gcd q.num (q.den:Int)=1):=Lib.hid q.reduced
  have sg1:sgnZ (((1:Nat):Int) - 1)=0:=by decide
  go_region_held3 (fun w'=>w'.cell? ⟨w6.heap.size,0,none⟩=some (.bool false)∧w'.cell? ⟨w6.heap.size,1,none⟩=some (.slice a3 (nl X) c3)∧w'.cell? ⟨w6.heap.size,2,none⟩=some (.bool false)∧w'.cell? ⟨w6.heap.size,3,none⟩=some (.slice a4 (nl D) c4)) (go_keep)
   (first
   | (go_at_call 107;(with_reducible refine (int_gcd _ _ q.num (q.den:Int) 4000 _ XR.out.num.drew XR.out.den.drew (by decide)).mono ?_);rintro e w8 ⟨r8,rfl,hr8,hb8⟩;rw [HG.out] at hr8;obtain⟨a8,n8,c8,rfl,I8⟩:=hr8.shapeN;clear hr8;have RN:=Lib.hid RN.out.drew;have RO:=Lib.hid RO.out.drew;have XR:=Lib.hid XR.out.drew;have KW:=Lib.hid KW.out.drew;have RN:=Lib.hid (RN.out.below hb8 RN.out.lt);have RO:=Lib.hid (RO.out.below hb8 RO.out.lt);have XR:=Lib.hid (XR.out.mono hb8 (Nat.le_refl _));have KW:=Lib.hid (KW.out.trans (hb8.mono KW.out.size));clear x0 x1 x2 x3 xl xf y0 y1 y2 y3 yl yf;have x0:=RN.out.c0;have x1:=RN.out.c1;have x2:=RN.out.c2;have x3:=RN.out.c3;have xl:=RN.out.lt;have xf:=RN.out.f;have y0:=RO.out.c0;have y1:=RO.out.c1;have y2:=RO.out.c2;have y3:=RO.out.c3;have yl:=RO.out.lt;have yf:=RO.out.f)
   | (go_at_call 94;(with_reducible refine (int_of 1 (by omega) (by omega) _).mono ?_);rintro e w9 ⟨r9,rfl,hr9,hb9⟩;obtain⟨s9,a9,n9,c9,rfl,I9⟩:=hr9.shape;clear hr9;have I8:=Lib.hid (I8.out.mono hb9 (Nat.le_refl _));have RN:=Lib.hid (RN.out.below hb9 RN.out.lt);have RO:=Lib.hid (RO.out.below hb9 RO.out.lt);have XR:=Lib.hid (XR.out.mono hb9 (Nat.le_refl _));have KW:=Lib.hid (KW.out.trans (hb9.mono KW.out.size));clear x0 x1 x2 x3 xl xf y0 y1 y2 y3 yl yf;have x0:=RN.out.c0;have x1:=RN.out.c1;have x2:=RN.out.c2;have x3:=RN.out.c3;have xl:=RN.out.lt;have xf:=RN.out.f;have y0:=RO.out.c0;have y1:=RO.out.c1;have y2:=RO.out.c2;have y3:=RO.out.c3;have yl:=RO.out.lt;have yf:=RO.out.f)
   | (go_at_call 101;(with_reducible refine (int_cmp _ _ ((1:Nat):Int) 1 4000 _ I8.out (I9.out.le (by decide)) (by decide)).mono ?_);rintro e w10 ⟨rfl,hb10⟩;rw [sg1];have RN:=Lib.hid (RN.out.below hb10 RN.out.lt);have RO:=Lib.hid (RO.out.below hb10 RO.out.lt);have XR:=Lib.hid (XR.out.mono hb10 (Nat.le_refl _));have KW:=Lib.hid (KW.out.trans (hb10.mono KW.out.size));clear x0 x1 x2 x3 xl xf y0 y1 y2 y3 yl yf;have x0:=RN.out.c0;have x1:=RN.out.c1;have x2:=RN.out.c2;have x3:=RN.out.c3;have xl:=RN.out.lt;have xf:=RN.out.f;have y0:=RO.out.c0;have y1:=RO.out.c1;have y2:=RO.out.c2;have y3:=RO.out.c3;have yl:=RO.out.lt;have yf:=RO.out.f))
  all_goals
   go_wp2
   refine bodyPost_ret (v:=.tuple #[.agg #[.bool false,.slice a3 (nl X) c3,.bool false,.slice a4 (nl D) c4],.bool true]) (by simp [results,Tryz.results65,go_sem,y0,y1,y2,y3,yf,yl]) rfl ?_
   first
   | exact⟨_,rfl,(RatIs.into XR.out _ _ _ _ RO.out),(below_set4 KW.out (Nat.le_refl _) _ _ _ _)⟩
   | exact⟨_,rfl,(RatIs.into XR.out _ _ _ _ RO.out).drew,(below_set4 KW.out (Nat.le_refl _) _ _ _ _).drew⟩
 ·have h0:0<X:=HM.out rfl
  have H0:=Lib.hid h0
  have HQ:Hid (q.num = -(X:Int)):=HQ
  have hnl:nl X≠0:=fun e=>by have:=(nl_le X 0).1 (by omega);simp at this;omega
  have e0:((nl X:Int) == 0)=false:=by simp;omega
  have dd:decide (0<X)=true:=by simpa using h0
  go_wp2_with fail
  refine (made_any _ true X _ M3.out).mono ?_
  rintro e w5 ⟨rfl,hm5,hb5⟩
  have M3:=Lib.hid hm5
  have M4:=Lib.hid (M4.out.mono hb5 (Nat.le_refl _))
  have RO:=Lib.hid (RO.out.below hb5 RO.out.lt)
  have KW:=Lib.hid (KW.out.trans (hb5.mono KW.out.size))
  clear hm5 hb5
  go_wp2_with fail
  refine (made_any _ false D _ M4.out).mono ?_
  rintro e w6 ⟨rfl,hm6,hb6⟩
  have M3:=Lib.hid (M3.out.mono hb6 (Nat.le_refl _))
  have M4:=Lib.hid hm6
  have RO:=Lib.hid (RO.out.below hb6 RO.out.lt)
  have KW:=Lib.hid (KW.out.trans (hb6.mono KW.out.size))
  clear hm6 hb6
  go_wp2_with fail
  have q1:¬ w6.heap.size=w.heap.size:=by have:=RO.out.lt;omega
  have q2:¬ w.heap.size=w6.heap.size:=by omega
  have RN:=Lib.hid (own4_new w6 w6.heap.size rfl (.bool true) (.slice a3 (nl X) c3) (.bool false) (.slice a4 (nl D) c4) 92)
  have K5:=Lib.hid (boxes1 w6 (.cells #[.bool true,.slice a3 (nl X) c3,.bool false,.slice a4 (nl D) c4] 92))
  have XR:=Lib.hid (rat_parts (m:=4000) (mn:=true) (X:=X) (by rw [HQ.out];rfl) (fun _=>H0.out) (M3.out.mono K5.out (Nat.le_refl _)) (by rw [HD.out];exact M4.out.mono K5.out (Nat.le_refl _)) hXn (by rw [HD.out];exact hDn))
  have RO:=Lib.hid (RO.out.below K5.out RO.out.lt)
  have KW:=Lib.hid (KW.out.trans (K5.out.mono KW.out.size))
  clear K5 M3 M4
  generalize (w6.alloc (.cells #[.bool true,.slice a3 (nl X) c3,.bool false,.slice a4 (nl D) c4] 92))=w7 at *
  have x0:=RN.out.c0;have x1:=RN.out.c1;have x2:=RN.out.c2;have x3:=RN.out.c3;have xl:=RN.out.lt;have xf:=RN.out.f;have y0:=RO.out.c0;have y1:=RO.out.c1;have y2:=RO.out.c2;have y3:=RO.out.c3;have yl:=RO.out.lt;have yf:=RO.out.f
  have HG:Hid (Int.gcd q.num (q.den:Int)=1):=Lib.hid q.reduced
  have sg1:sgnZ (((1:Nat):Int) - 1)=0:=by decide
  go_region_held3 (fun w'=>w'.cell? ⟨w6.heap.size,0,none⟩=some (.bool true)∧w'.cell? ⟨w6.heap.size,1,none⟩=some (.slice a3 (nl X) c3)∧w'.cell? ⟨w6.heap.size,2,none⟩=some (.bool false)∧w'.cell? ⟨w6.heap.size,3,none⟩=some (.slice a4 (nl D) c4)) (go_keep)
   (first
   | (go_at_call 107;(with_reducible refine (int_gcd _ _ q.num (q.den:Int) 4000 _ XR.out.num.drew XR.out.den.drew (by decide)).mono ?_);rintro e w8 ⟨r8,rfl,hr8,hb8⟩;rw [HG.out] at hr8;obtain⟨a8,n8,c8,rfl,I8⟩:=hr8.shapeN;clear hr8;have RN:=Lib.hid RN.out.drew;have RO:=Lib.hid RO.out.drew;have XR:=Lib.hid XR.out.drew;have KW:=Lib.hid KW.out.drew;have RN:=Lib.hid (RN.out.below hb8 RN.out.lt);have RO:=Lib.hid (RO.out.below hb8 RO.out.lt);have XR:=Lib.hid (XR.out.mono hb8 (Nat.le_refl _));have KW:=Lib.hid (KW.out.trans (hb8.mono KW.out.size));clear x0 x1 x2 x3 xl xf y0 y1 y2 y3 yl yf;have x0:=RN.out.c0;have x1:=RN.out.c1;have x2:=RN.out.c2;have x3:=RN.out.c3;have xl:=RN.out.lt;have xf:=RN.out.f;have y0:=RO.out.c0;have y1:=RO.out.c1;have y2:=RO.out.c2;have y3:=RO.out.c3;have yl:=RO.out.lt;have yf:=RO.out.f)
   | (go_at_call 94;(with_reducible refine (int_of 1 (by omega) (by omega) _).mono ?_);rintro e w9 ⟨r9,rfl,hr9,hb9⟩;obtain⟨s9,a9,n9,c9,rfl,I9⟩:=hr9.shape;clear hr9;have I8:=Lib.hid (I8.out.mono hb9 (Nat.le_refl _));have RN:=Lib.hid (RN.out.below hb9 RN.out.lt);have RO:=Lib.hid (RO.out.below hb9 RO.out.lt);have XR:=Lib.hid (XR.out.mono hb9 (Nat.le_refl _));have KW:=Lib.hid (KW.out.trans (hb9.mono KW.out.size));clear x0 x1 x2 x3 xl xf y0 y1 y2 y3 yl yf;have x0:=RN.out.c0;have x1:=RN.out.c1;have x2:=RN.out.c2;have x3:=RN.out.c3;have xl:=RN.out.lt;have xf:=RN.out.f;have y0:=RO.out.c0;have y1:=RO.out.c1;have y2:=RO.out.c2;have y3:=RO.out.c3;have yl:=RO.out.lt;have yf:=RO.out.f)
   | (go_at_call 101;(with_reducible refine (int_cmp _ _ ((1:Nat):Int) 1 4000 _ I8.out (I9.out.le (by decide)) (by decide)).mono ?_);rintro e w10 ⟨rfl,hb10⟩;rw [sg1];have RN:=Lib.hid (RN.out.below hb10 RN.out.lt);have RO:=Lib.hid (RO.out.below hb10 RO.out.lt);have XR:=Lib.hid (XR.out.mono hb10 (Nat.le_refl _));have KW:=Lib.hid (KW.out.trans (hb10.mono KW.out.size));clear x0 x1 x2 x3 xl xf y0 y1 y2 y3 yl yf;have x0:=RN.out.c0;have x1:=RN.out.c1;have x2:=RN.out.c2;have x3:=RN.out.c3;have xl:=RN.out.lt;have xf:=RN.out.f;have y0:=RO.out.c0;have y1:=RO.out.c1;have y2:=RO.out.c2;have y3:=RO.out.c3;have yl:=RO.out.lt;have yf:=RO.out.f))
  all_goals
   go_wp2
   refine bodyPost_ret (v:=.tuple #[.agg #[.bool true,.slice a3 (nl X) c3,.bool false,.slice a4 (nl D) c4],.bool true]) (by simp [results,Tryz.results65,go_sem,y0,y1,y2,y3,yf,yl]) rfl ?_
   first
   | exact⟨_,rfl,(RatIs.into XR.out _ _ _ _ RO.out),(below_set4 KW.out (Nat.le_refl _) _ _ _ _)⟩
   | exact⟨_,rfl,(RatIs.into XR.out _ _ _ _ RO.out).drew,(below_set4 KW.out (Nat.le_refl _) _ _ _ _).drew⟩
end Go.Proofs.YtgmopcncbpdniaaGreat
namespace Go.Proofs.YtgmopcncbpdniaaGreat
open Go.RowKit
theorem nl_pow {x k:Nat} (h:x<10 ^ k):nl x≤k:=(nl_le x k).2 (Nat.lt_of_lt_of_le h (Nat.pow_le_pow_left (by decide) k))
theorem nl_maxD {x:Nat} (h:MaxD x):nl x≤4000:=nl_pow h.lt
theorem bts_ext {s t:ByteArray} {L:Nat} {f:Nat→Nat} (h:Bts s L f) (h':Bts t L f):s=t:=by
 have hs:s.data.size=t.data.size:=by
  have a:s.data.size=L:=h.1
  have b:t.data.size=L:=h'.1
  omega
 have hd:s.data=t.data:=by
  apply Array.ext hs
  intro i hi hj
  apply UInt8.toNat_inj.1
  exact (h.2 i hi).trans (h'.2 i hj).symm
 cases s;cases t;simp_all
theorem nparse_txt (s:ByteArray) (q:Rat) (w:World) (hs:FracTxt s q.num q.den) (hp:MaxD q.num.natAbs) (hD:MaxD q.den) :
  Calls Tryz.prog 65 #[.string s] w fun e w'=>∃ r,e = .returned (.tuple #[r,.bool true])∧RatIs w' r q 4000∧Below w.heap.size w w':=by
 obtain⟨t,⟨Lt,hLt,hts,htb⟩,hcase⟩:=hs
 have bt:Bts t Lt (fun i=>48+d10 q.num.natAbs (Lt - 1 - i)):=⟨hts,htb⟩
 have okt:=okD_txt hLt hp.lt
 have nut:=numD_txt hLt
 have h4t:Lt≤4000:=okt.2.1
 have hpos:=hLt.pos
 have hnx:=nl_maxD hp
 have hnd:=nl_maxD hD
 have hden:=q.den_pos
 rcases hcase with ⟨d1,hs⟩ | ⟨d1,u,⟨Lu,hLu,hus,hub⟩,hs⟩
 ·rcases (by omega:q.num<0∨0≤q.num) with hneg | hge
  ·rw [if_pos hneg] at hs
   have b0:Bts s (1+Lt) _:=hs ▸ bts_append (bts_one 45) bt
   have hsz:s.size=1+Lt:=b0.1
   have hex:s.extract 0 (1+Lt)=s:=by rw [←hsz];exact ByteArray.extract_zero_size
   have hpp:=pre_yes hs
   refine npar_whole s t (1+Lt) Lt q.num.natAbs _ _ true q w b0 (by omega) ⟨Nat.le_refl _,fun i hi=>?_,fun h=>absurd h (Nat.lt_irrefl _)⟩ (by rw [hex];exact hpp.1) (by rw [hex];exact hpp.2) bt okt nut (fun _=>by omega) hnx (by simp;omega) d1
   dsimp only
   split
   ·decide
   ·exact (txt_no _ _ _).1
  ·rw [if_neg (by omega)] at hs
   subst hs
   have hex:s.extract 0 Lt=s:=by rw [←hts];exact ByteArray.extract_zero_size
   have hpp:=pre_no (s:=s) (by
    obtain⟨b,hb,hb2⟩:=bts_get bt 0 (by omega)
    rw [hb]
    intro e
    injection e with e
    subst e
    exact (txt_no _ _ _).2 hb2.symm)
   exact npar_whole s s Lt Lt q.num.natAbs _ _ false q w bt (by omega) ⟨Nat.le_refl _,fun i hi=>(txt_no _ _ _).1,fun h=>absurd h (Nat.lt_irrefl _)⟩ (by rw [hex];exact hpp.1) (by rw [hex];exact hpp.2) bt okt nut (fun e=>Bool.noConfusion e) hnx (by simp;omega) d1
 ·have bu:Bts u Lu (fun i=>48+d10 q.den (Lu - 1 - i)):=⟨hus,hub⟩
  have oku:=okD_txt hLu hD.lt
  have nuu:=numD_txt hLu
  have h4u:Lu≤4000:=oku.2.1
  have btu:=bts_append bt (bts_append (bts_one 47) bu)
  rcases (by omega:q.num<0∨0≤q.num) with hneg | hge
  ·rw [if_pos hneg] at hs
   have hs2:=hs
   rw [ByteArray.append_assoc] at hs
   have b0:Bts s (1+(Lt+(1+Lu))) _:=hs ▸ bts_append (bts_one 45) btu
   have b2:Bts (s.extract 0 (1+Lt)) (1+Lt) (fun i=>if i<1 then 45 else 48+d10 q.num.natAbs (Lt - 1 - (i - 1))):=by
    have:=bts_cut b0 0 (1+Lt) (by omega) (by omega) (g:=fun i=>if i<1 then 45 else 48+d10 q.num.natAbs (Lt - 1 - (i - 1))) (fun k hk=>by
     rw [Nat.zero_add]
     rcases Nat.lt_or_ge k 1 with e | e
     ·rw [if_pos e,if_pos e];rfl
     ·rw [if_neg (by omega),if_pos (by omega),if_neg (by omega)])
    exact this
   have b3:Bts (⟨#[45]⟩ ++ t) (1+Lt) (fun i=>if i<1 then 45 else 48+d10 q.num.natAbs (Lt - 1 - (i - 1))):=bts_append (bts_one 45) bt
   have hex:=bts_ext b2 b3
   have hpp:=pre_yes hex
   have b4:=bts_cut b0 (1+Lt+1) (1+(Lt+(1+Lu))) (by omega) (Nat.le_refl _) (g:=fun i=>48+d10 q.den (Lu - 1 - i)) (fun k hk=>by rw [if_neg (by omega),if_neg (by omega),if_neg (by omega),show 1+Lt+1+k - 1 - Lt - 1=k by omega])
   rw [show 1+(Lt+(1+Lu)) - (1+Lt+1)=Lu by omega] at b4
   refine npar_frac s t _ (1+(Lt+(1+Lu))) (1+Lt) Lt Lu q.num.natAbs q.den _ _ _ true q w b0 (by omega) ⟨by omega,fun i hi=>?_,fun h=>?_⟩ (by omega) hpp.1 hpp.2 rfl bt okt nut b4 oku nuu (by omega) (fun _=>by omega) hnx hnd (by simp;omega) rfl
   ·dsimp only
    rcases Nat.lt_or_ge i 1 with e | e
    ·rw [if_pos e];decide
    ·rw [if_neg (by omega),if_pos (by omega)];exact (txt_no _ _ _).1
   ·dsimp only
    rw [if_neg (by omega),if_neg (by omega),if_pos (by omega)];rfl
  ·rw [if_neg (by omega)] at hs
   have b1:Bts s (Lt+(1+Lu)) (fun i=>if i<Lt then 48+d10 q.num.natAbs (Lt - 1 - i) else if i - Lt<1 then 47 else 48+d10 q.den (Lu - 1 - (i - Lt - 1))):=hs ▸ btu
   have b2:Bts (s.extract 0 Lt) Lt (fun i=>48+d10 q.num.natAbs (Lt - 1 - i)):=by
    have:=bts_cut b1 0 Lt (by omega) (by omega) (g:=fun i=>48+d10 q.num.natAbs (Lt - 1 - i)) (fun k hk=>by rw [Nat.zero_add,if_pos (by omega)])
    exact this
   have hex:=bts_ext b2 bt
   have hpp:=pre_no (s:=t) (by
    obtain⟨b,hb,hb2⟩:=bts_get bt 0 (by omega)
    rw [hb]
    intro e
    injection e with e
    subst e
    exact (txt_no _ _ _).2 hb2.symm)
   rw [←hex] at hpp
   have b4:=bts_cut b1 (Lt+1) (Lt+(1+Lu)) (by omega) (Nat.le_refl _) (g:=fun i=>48+d10 q.den (Lu - 1 - i)) (fun k hk=>by rw [if_neg (by omega),if_neg (by omega),show Lt+1+k - Lt - 1=k by omega])
   rw [show Lt+(1+Lu) - (Lt+1)=Lu by omega] at b4
   refine npar_frac s t _ (Lt+(1+Lu)) Lt Lt Lu q.num.natAbs q.den _ _ _ false q w b1 (by omega) ⟨by omega,fun i hi=>?_,fun h=>?_⟩ (by omega) hpp.1 (hpp.2.trans hex) rfl bt okt nut b4 oku nuu (by omega) (fun e=>Bool.noConfusion e) hnx hnd (by simp;omega) rfl
   ·dsimp only
    rw [if_pos hi];exact (txt_no _ _ _).1
   ·dsimp only
    rw [if_neg (by omega),if_pos (by omega)]
end Go.Proofs.YtgmopcncbpdniaaGreat
namespace Go.Proofs.YtgmopcncbpdniaaGreat
open Go.RowKit
theorem valT_at {g:Nat→Nat} (h:∀ i,g i<10) (L i:Nat) (hi:i<L):d10 (valT g L) (L - 1 - i)=g i:=by
 have e:L=(i+1)+(L - 1 - i):=by omega
 unfold d10
 have h1:=valT_div h (i+1) (L - 1 - i)
 rw [←e] at h1
 rw [h1]
 simp only [valT]
 have:=h i
 omega
theorem valT_lead {g:Nat→Nat} (L:Nat) (hL:1<L) (h0:1≤g 0):10 ^ (L - 1)≤valT g L:=by
 have h1:=valT_split g 1 (L - 1)
 rw [show 1+(L - 1)=L by omega] at h1
 have h3:valT g 1=g 0:=by simp [valT]
 rw [h1,h3]
 have h2:=Nat.mul_le_mul_right (10 ^ (L - 1)) h0
 rw [Nat.one_mul] at h2
 exact Nat.le_trans h2 (Nat.le_add_right _ _)
theorem txt_of_ok {t:ByteArray} {L:Nat} {f:Nat→Nat} (hb:Bts t L f) (ok:okD L f):IsTxt t (numD L f):=by
 obtain⟨h1,h2,h3,h4⟩:=ok
 have hd:∀ i,(fun i=>dv (f i)) i<10:=fun i=>dv_lt _
 have hdv:∀ i,i<L→48+dv (f i)=f i:=fun i hi=>by
  have:=h4 i hi
  unfold dv
  rw [if_pos this];omega
 have hl:1<L→10 ^ (L - 1)≤numD L f:=fun h=>valT_lead L h (by
  have a:=hdv 0 (by omega)
  have b:=h4 0 (by omega)
  have c:f 0≠48:=fun e=>h3 ⟨e,h⟩
  show 1≤dv (f 0)
  omega)
 refine⟨L,⟨valT_lt hd L,fun h0=>?_,fun h0=>⟨by omega,?_⟩⟩,hb.1,fun i hi=>?_⟩
 ·rcases Nat.lt_or_ge 1 L with e | e
  ·have a:=hl e
   have b:=Nat.one_le_pow (L - 1) 10 (by omega)
   omega
  ·omega
 ·rcases Nat.lt_or_ge 1 L with e | e
  ·exact hl e
  ·rw [show L - 1=0 by omega];exact h0
 ·have a:=hb.2 i hi
  have hiL:i<L:=by rw [←hb.1];exact hi
  rw [a,←hdv i hiL]
  have:=valT_at hd L i hiL
  unfold numD
  rw [this]
def GoodT (s:ByteArray):Prop:=∃ q:Rat,FracTxt s q.num q.den
theorem sg_abs (mn:Bool) (X:Nat):(if mn then -(X:Int) else X).natAbs=X:=by cases mn <;> simp
theorem sg_neg (mn:Bool) (X:Nat) (hm:mn=true→0<X):((if mn then -(X:Int) else X)<0)=(mn=true):=by
 cases mn with
 | true=>have:=hm rfl;simp;omega
 | false=>simp
theorem good_whole {s t:ByteArray} {mn:Bool} {X:Nat} (hs:s=if mn=true then ⟨#[45]⟩ ++ t else t) (ht:IsTxt t X) (hm:mn=true→0<X):GoodT s:=by
 refine⟨⟨if mn then -(X:Int) else X,1,by decide,Nat.coprime_one_right _⟩,t,?_,.inl ⟨rfl,?_⟩⟩
 ·show IsTxt t (if mn then -(X:Int) else X).natAbs
  rw [sg_abs];exact ht
 ·show s=if (if mn then -(X:Int) else X)<0 then _ else _
  rw [hs]
  simp only [sg_neg mn X hm]
theorem good_frac {s t u:ByteArray} {mn:Bool} {X D:Nat} (hs:s=(if mn=true then ⟨#[45]⟩ ++ t else t) ++ (⟨#[47]⟩ ++ u)) (ht:IsTxt t X) (hu:IsTxt u D) (hm:mn=true→0<X) (hD:1<D) (hg:Nat.gcd X D=1):GoodT s:=by
 refine⟨⟨if mn then -(X:Int) else X,D,by omega,by unfold Nat.Coprime;rw [sg_abs];exact hg⟩,t,?_,.inr ⟨?_,u,hu,?_⟩⟩
 ·show IsTxt t (if mn then -(X:Int) else X).natAbs
  rw [sg_abs];exact ht
 ·show D≠1
  omega
 ·show s=(if (if mn then -(X:Int) else X)<0 then _ else _) ++ _
  rw [hs]
  simp only [sg_neg mn X hm]
end Go.Proofs.YtgmopcncbpdniaaGreat
namespace Go.Proofs.YtgmopcncbpdniaaGreat
open Go.RowKit
attribute [local go_sem ↓] Go.wp_at_zero Go.wp_at_succ
set_option maxHeartbeats 8000000 in
set_option maxRecDepth 100000 in
theorem npn_whole (s t:ByteArray) (L Lt X:Nat) (f ft:Nat→Nat) (mn b1:Bool) (w:World) (hs:Bts s L f) (hL:L≤1000000) (hk:SlAt L f L) (hpre:Lib.hasPrefix (s.extract 0 L).data.toList [45]=mn) (htr:(⟨(Lib.trimPrefix (s.extract 0 L).data.toList [45]).toArray⟩:ByteArray)=t)
  (ht:Bts t Lt ft) (hLt:Lt≤1000000) (hb:b1=true↔okD Lt ft) (hX:(if b1=true then numD Lt ft else 0)=X) (hbad:b1=false∨(mn=true∧X=0)) :
  Calls Tryz.prog 65 #[.string s] w fun e w'=>e = .returned (.tuple #[.agg #[.bool false,.slice none 0 0,.bool false,.slice none 0 0],.bool false])∧Below w.heap.size w w':=by
 have HS:=Lib.hid hs
 have HK:=Lib.hid hk
 have HP:=Lib.hid hpre
 have HT:=Lib.hid htr
 have HBT:=Lib.hid ht
 have HOK:=Lib.hid hb
 have HX:=Lib.hid hX
 have RO0:=Lib.hid (own4_new w w.heap.size rfl (.bool false) (.slice none 0 0) (.bool false) (.slice none 0 0) 92)
 have KW0:=Lib.hid (boxes1 w (.cells #[.bool false,.slice none 0 0,.bool false,.slice none 0 0] 92))
 clear hs hk hpre htr ht hb hX
 go_enter Tryz.func65,Tryz.ntmps65
 go_wp2_with fail
 generalize w.alloc (.cells #[.bool false,.slice none 0 0,.bool false,.slice none 0 0] 92)=wb at *
 refine (cut_slash s L L f _ HS.out hL HK.out).mono ?_
 rintro e w1 ⟨rfl,hd1⟩
 rw [if_neg (Nat.lt_irrefl _),decide_eq_false (Nat.lt_irrefl _)]
 have KW:=Lib.hid (KW0.out.trans ((hd1.below wb.heap.size).mono KW0.out.size))
 have RO:=Lib.hid (RO0.out.drawn hd1)
 clear hd1
 go_wp2_with fail
 refine (Tryz.strings_CutPrefix (s.extract 0 L) ⟨#[45]⟩ _).mono ?_
 rintro e w2 ⟨rfl,rfl⟩
 rw [show (⟨#[45]⟩:ByteArray).data.toList = [45] from rfl,HP.out,HT.out]
 go_wp2_with fail
 refine (nread_any t Lt ft b1 _ HBT.out hLt HOK.out).mono ?_
 rintro e w3 ⟨v3,rfl,hm3,hb3⟩
 rw [HX.out] at hm3
 have KW:=Lib.hid (KW.out.trans (hb3.mono KW.out.size))
 have RO:=Lib.hid (RO.out.below hb3 RO.out.lt)
 obtain⟨a3,b3,o3,c3,rfl,i3⟩:=hm3
 clear hb3 i3
 have K1:=Lib.hid (boxes1 w3 (.cells #[.int .u32 ((1:Nat):Int)] 145))
 have RO:=Lib.hid (RO.out.below K1.out RO.out.lt)
 have KW:=Lib.hid (KW.out.trans (K1.out.mono KW.out.size))
 clear K1
 go_upto_region 5 with (fail)
 generalize w3.alloc (.cells #[.int .u32 ((1:Nat):Int)] 145)=w3b at *
 have y0:=RO.out.c0;have y1:=RO.out.c1;have y2:=RO.out.c2;have y3:=RO.out.c3;have yl:=RO.out.lt;have yf:=RO.out.f
 rcases b1 with _ | _
 ·clear hbad
  cases mn
  all_goals
   go_wp2
   refine bodyPost_ret (v:=.tuple #[.agg #[.bool false,.slice none 0 0,.bool false,.slice none 0 0],.bool false]) (by simp [results,Tryz.results65,go_sem,y0,y1,y2,y3,yf,yl]) rfl ?_
   exact⟨rfl,below_set4 KW.out (Nat.le_refl _) _ _ _ _⟩
 ·obtain⟨rfl,h0⟩:mn=true∧X=0:=by
   rcases hbad with h | h
   ·cases h
   ·exact h
  have nl0:nl X=0:=by rw [h0];decide
  have en:((nl X:Int) == 0)=true:=by rw [nl0];rfl
  have KW:=KW
  clear hbad
  ·go_wp2
   refine bodyPost_ret (v:=.tuple #[.agg #[.bool false,.slice none 0 0,.bool false,.slice none 0 0],.bool false]) (by simp [results,Tryz.results65,go_sem,y0,y1,y2,y3,yf,yl]) rfl ?_
   exact⟨rfl,below_set4 KW.out (Nat.le_refl _) _ _ _ _⟩
set_option maxHeartbeats 8000000 in
set_option maxRecDepth 100000 in
theorem npn_frac (s t u:ByteArray) (L p Lt Lu X D:Nat) (f ft fu:Nat→Nat) (mn b1 b2:Bool) (w:World) (hs:Bts s L f) (hL:L≤1000000) (hk:SlAt L f p) (hp:p<L) (hpre:Lib.hasPrefix (s.extract 0 p).data.toList [45]=mn) (htr:(⟨(Lib.trimPrefix (s.extract 0 p).data.toList [45]).toArray⟩:ByteArray)=t)
  (hu:s.extract (p+1) L=u) (ht:Bts t Lt ft) (hLt:Lt≤1000000) (hb:b1=true↔okD Lt ft) (hX:(if b1=true then numD Lt ft else 0)=X) (hbu:Bts u Lu fu) (hLu:Lu≤1000000) (hb2:b2=true↔okD Lu fu) (hD:(if b2=true then numD Lu fu else 0)=D) (hDn:nl D≤4000) (hbad:b1=false∨D≤1∨(mn=true∧X=0)) :
  Calls Tryz.prog 65 #[.string s] w fun e w'=>e = .returned (.tuple #[.agg #[.bool false,.slice none 0 0,.bool false,.slice none 0 0],.bool false])∧Below w.heap.size w w':=by
 have HU:=Lib.hid hu
 have HBU:=Lib.hid hbu
 have HOU:=Lib.hid hb2
 have HDu:=Lib.hid hD
 have HLp:=Lib.hid hp
 have HBAD:=Lib.hid hbad
 clear hu hbu hb2 hD hp hbad
 have HS:=Lib.hid hs
 have HK:=Lib.hid hk
 have HP:=Lib.hid hpre
 have HT:=Lib.hid htr
 have HBT:=Lib.hid ht
 have HOK:=Lib.hid hb
 have HX:=Lib.hid hX
 have RO0:=Lib.hid (own4_new w w.heap.size rfl (.bool false) (.slice none 0 0) (.bool false) (.slice none 0 0) 92)
 have KW0:=Lib.hid (boxes1 w (.cells #[.bool false,.slice none 0 0,.bool false,.slice none 0 0] 92))
 clear hs hk hpre htr ht hb hX
 go_enter Tryz.func65,Tryz.ntmps65
 go_wp2_with fail
 generalize w.alloc (.cells #[.bool false,.slice none 0 0,.bool false,.slice none 0 0] 92)=wb at *
 refine (cut_slash s L p f _ HS.out hL HK.out).mono ?_
 rintro e w1 ⟨rfl,hd1⟩
 rw [if_pos HLp.out,decide_eq_true HLp.out,HU.out]
 have KW:=Lib.hid (KW0.out.trans ((hd1.below wb.heap.size).mono KW0.out.size))
 have RO:=Lib.hid (RO0.out.drawn hd1)
 clear hd1
 go_wp2_with fail
 refine (Tryz.strings_CutPrefix (s.extract 0 p) ⟨#[45]⟩ _).mono ?_
 rintro e w2 ⟨rfl,rfl⟩
 rw [show (⟨#[45]⟩:ByteArray).data.toList = [45] from rfl,HP.out,HT.out]
 go_wp2_with fail
 refine (nread_any t Lt ft b1 _ HBT.out hLt HOK.out).mono ?_
 rintro e w3 ⟨v3,rfl,hm3,hb3⟩
 rw [HX.out] at hm3
 have KW:=Lib.hid (KW.out.trans (hb3.mono KW.out.size))
 have RO:=Lib.hid (RO.out.below hb3 RO.out.lt)
 obtain⟨a3,b3,o3,c3,rfl,i3⟩:=hm3
 clear hb3 i3
 have K1:=Lib.hid (boxes1 w3 (.cells #[.int .u32 ((1:Nat):Int)] 145))
 have RO:=Lib.hid (RO.out.below K1.out RO.out.lt)
 have KW:=Lib.hid (KW.out.trans (K1.out.mono KW.out.size))
 clear K1
 go_wp2_with fail
 generalize w3.alloc (.cells #[.int .u32 ((1:Nat):Int)] 145)=w3b at *
 refine (nread_any u Lu fu b2 _ HBU.out hLu HOU.out).mono ?_
 rintro e w4 ⟨v4,rfl,hm4,hb4⟩
 rw [HDu.out] at hm4
 have M4:=Lib.hid hm4
 have KW:=Lib.hid (KW.out.trans (hb4.mono KW.out.size))
 have RO:=Lib.hid (RO.out.below hb4 RO.out.lt)
 obtain⟨a4,b4,o4,c4,rfl,i4⟩:=hm4
 clear hb4 i4
 rcases b2 with _ | _
 ·have y0:=RO.out.c0;have y1:=RO.out.c1;have y2:=RO.out.c2;have y3:=RO.out.c3;have yl:=RO.out.lt;have yf:=RO.out.f
  cases b1
  all_goals
   go_wp2
   refine bodyPost_ret (v:=.tuple #[.agg #[.bool false,.slice none 0 0,.bool false,.slice none 0 0],.bool false]) (by simp [results,Tryz.results65,go_sem,y0,y1,y2,y3,yf,yl]) rfl ?_
   exact⟨rfl,below_set4 KW.out (Nat.le_refl _) _ _ _ _⟩
 ·have L1:=Lib.hid (limb_new w4 1 (by omega))
  have K1:=Lib.hid (boxes1 w4 (.cells #[.int .u32 ((1:Nat):Int)] 145))
  have hT:trimN (fun _=>1) 1=1:=by decide
  rw [hT] at L1
  have M4:=Lib.hid (M4.out.mono K1.out (Nat.le_refl _))
  have RO:=Lib.hid (RO.out.below K1.out RO.out.lt)
  have KW:=Lib.hid (KW.out.trans (K1.out.mono KW.out.size))
  clear K1 hT
  go_wp2_with fail
  refine (compare_any _ _ D 1 _ M4.out L1.out (by omega) (by decide)).mono ?_
  rintro e w4c ⟨rfl,hd4⟩
  have RO:=Lib.hid (RO.out.drawn hd4)
  have KW:=Lib.hid (KW.out.trans ((hd4.below (w4.alloc (.cells #[.int .u32 ((1:Nat):Int)] 145)).heap.size).mono KW.out.size))
  clear hd4 L1
  have y0:=RO.out.c0;have y1:=RO.out.c1;have y2:=RO.out.c2;have y3:=RO.out.c3;have yl:=RO.out.lt;have yf:=RO.out.f
  rcases Nat.lt_or_ge 1 D with hD1 | hD1
  ·have hc1:cmpN D 1=1:=by unfold cmpN;rw [if_neg (by omega),if_neg (by omega)]
   rw [hc1]
   rcases b1 with _ | _
   ·clear hc1 hD1
    cases mn
    all_goals
     go_wp2
     refine bodyPost_ret (v:=.tuple #[.agg #[.bool false,.slice none 0 0,.bool false,.slice none 0 0],.bool false]) (by simp [results,Tryz.results65,go_sem,y0,y1,y2,y3,yf,yl]) rfl ?_
     exact⟨rfl,below_set4 KW.out (Nat.le_refl _) _ _ _ _⟩
   ·obtain⟨rfl,h0⟩:mn=true∧X=0:=by
     rcases HBAD.out with h | h | h
     ·cases h
     ·omega
     ·exact h
    have nl0:nl X=0:=by rw [h0];decide
    have en:((nl X:Int) == 0)=true:=by rw [nl0];rfl
    clear hc1 hD1
    ·go_wp2
     refine bodyPost_ret (v:=.tuple #[.agg #[.bool false,.slice none 0 0,.bool false,.slice none 0 0],.bool false]) (by simp [results,Tryz.results65,go_sem,y0,y1,y2,y3,yf,yl]) rfl ?_
     exact⟨rfl,below_set4 KW.out (Nat.le_refl _) _ _ _ _⟩
  ·have hc1:decide (0<cmpN D 1)=false:=by
    unfold cmpN
    rcases Nat.lt_or_ge D 1 with e | e
    ·rw [if_pos e];decide
    ·rw [if_neg (by omega),if_pos (by omega)];decide
   generalize cmpN D 1=cc at hc1
   clear hD1
   cases b1
   all_goals
    go_wp2
    refine bodyPost_ret (v:=.tuple #[.agg #[.bool false,.slice none 0 0,.bool false,.slice none 0 0],.bool false]) (by simp [results,Tryz.results65,go_sem,y0,y1,y2,y3,yf,yl]) rfl ?_
    exact⟨rfl,below_set4 KW.out (Nat.le_refl _) _ _ _ _⟩
end Go.Proofs.YtgmopcncbpdniaaGreat
