import Derived.Test.YtgmopcncbpdniaaGreatKShelf
import Derived.Test.YtgmopcncbpdniaaGreatKPlainD
import Derived.Test.YtgmopcncbpdniaaGreatKGen
import Derived.Test.YtgmopcncbpdniaaGreatKOwn
import Derived.Laws.AppendOwnNone
import Derived.Deep.LoopGhost
import Derived.Deep.DeepCutAuto
import Derived.Deep.CutBlock
set_option maxHeartbeats 4000000
set_option maxRecDepth 100000
set_option linter.unusedVariables false
set_option linter.unusedSimpArgs false
namespace Go.Proofs.YtgmopcncbpdniaaGreat
open Go.RowKit
attribute [local go_sem ↓] Go.wp_at_zero Go.wp_at_succ
def dI (f:Nat->Nat) (i:Nat):Int:=(f i:Nat)
def Raw (w:World) (u:Value) (n:Nat) (f:Nat->Nat):Prop:=Ints w u n (dI f)
def Dg (w:World) (u:Value) (x:Nat):Prop:=Raw w u (nd x) (dg x)
theorem Dg.mono {w w':World} {u:Value} {x B:Nat} (h:Dg w u x) (hb:Below B w w') (hB:w.heap.size<=B):Dg w' u x:=Ints.mono h hb hB
theorem Dg.drawn {w w':World} {u:Value} {x:Nat} (h:Dg w u x) (hd:Drawn w w'):Dg w' u x:=Ints.drawn h hd
def ZIs (w:World) (v:Value) (z:Int) (m:Nat):Prop:=∃ u,v = .agg #[.bool (decide (z<0)),u]/\Dg w u z.natAbs/\nd z.natAbs<=m
theorem ZIs.mono {w w':World} {v:Value} {z:Int} {m B:Nat} (h:ZIs w v z m) (hb:Below B w w') (hB:w.heap.size<=B):ZIs w' v z m:=by
 obtain⟨u,rfl,h1,h2⟩:=h;exact⟨u,rfl,h1.mono hb hB,h2⟩
theorem ZIs.drawn {w w':World} {v:Value} {z:Int} {m:Nat} (h:ZIs w v z m) (hd:Drawn w w'):ZIs w' v z m:=h.mono (hd.below _) jl
theorem ZIs.le {w:World} {v:Value} {z:Int} {m n:Nat} (h:ZIs w v z m) (hle:m<=n):ZIs w v z n:=by
 obtain⟨u,rfl,h1,h2⟩:=h;exact⟨u,rfl,h1,Nat.le_trans h2 hle⟩
theorem ZIs.mk {w:World} {s:Bool} {u:Value} {x m:Nat} {z:Int} (hz:z=sgn s x) (hm:Dg w u x) (hl:nd x<=m):ZIs w (.agg #[.bool (s && decide (0<x)),u]) z m:=by
 subst hz;exact⟨u,by rw [sgn_neg],by rw [sgn_abs];exact hm,by rw [sgn_abs];exact hl⟩
theorem div_stepD (x k:Nat):x / 10000 ^ k=(x / 10000 ^ (k+1))*10000+dg x k:=by
 unfold dg;rw [Nat.pow_succ,<-Nat.div_div_eq_div_mul];have:=Nat.div_add_mod (x / 10000 ^ k) 10000;omega
theorem sizes_any (u v:Value) (x y:Nat) (w:World) (hu:Dg w u x) (hv:Dg w v y) (bx:nd x<=1099511627776) (b_y:nd y<=1099511627776) :
  Calls Tryz.prog 80 #[u,v] w fun e w'=>e = .returned (.int .i64 (cmpN x y))/\Drawn w w':=by
 obtain⟨a1,b1,o1,c1,rfl,i1⟩:=hu;obtain⟨a2,b2,o2,c2,rfl,i2⟩:=hv;by_cases hl:nd x=nd y
 ·have hl1:(((nd x:Nat):Int) != ((nd y:Nat):Int))=false:=by simp [hl]
  have HL:=jj hl;clear hl;go_enter Tryz.func80,Tryz.ntmps80;go_wp2;go_loopw [5] (fun i wr=>∃ k:Nat,k<=nd x/\i = .int .i64 ((k:Int) - 1)/\Hid (Drawn w wr)/\Hid (x / 10000 ^ k=y / 10000 ^ k)) (fun i _=>(intOf i+1).toNat)
  case atStart=>exact⟨nd x,Nat.le_refl _,rfl,jj (Drawn.refl _),jj (by
   rw [Nat.div_eq_of_lt (lt_pow_nd x),HL.out,Nat.div_eq_of_lt (lt_pow_nd y)])⟩
  case round=>
   obtain⟨k,hk,rfl,hd,HQ⟩:=hrel;by_cases h0:0<k
   ·obtain⟨j,rfl⟩:∃ j,k=j+1:=⟨k - 1,by omega⟩;have hj1:j<nd x:=by omega
    have hj2:j<nd y:=by rw [<-HL.out];omega
    have e0:((j+1:Nat):Int) - 1=(j:Int):=by omega
    rw [e0];clear e0;have hc1:=(i1.drawn hd.out).cell j hj1;have hc2:=(i2.drawn hd.out).cell j hj2;have hx1:=fun W=>ixI i1 j c1 hj1 W
    have hx2:=fun W=>ixI i2 j c2 hj2 W
    simp only [ic,dI] at hc1 hc2;have g0:decide ((0:Int)<=(j:Int))=true:=by simp
    have hw1:IntKind.i64.wrap ((j:Int) - 1)=(j:Int) - 1:=by rw [IntKind.wrap_i64];omega
    have e1:=div_stepD x j;have e2:=div_stepD y j;have hq:=HQ.out
    have hlt:dg x j<dg y j->x<y:=fun h=>by
     rcases Nat.lt_or_ge x y with q | q
     ·exact q
     ·have:=Nat.div_le_div_right (c:=10000 ^ j) q;rw [e1,e2,hq] at this;omega
    have hgt:dg y j<dg x j->y<x:=fun h=>by
     rcases Nat.lt_or_ge y x with q | q
     ·exact q
     ·have:=Nat.div_le_div_right (c:=10000 ^ j) q;rw [e1,e2,hq] at this;omega
    have heq:dg x j=dg y j->x / 10000 ^ j=y / 10000 ^ j:=fun h=>by rw [e1,e2,hq,h]
    have HLT:=jj hlt;have HGT:=jj hgt;have HEQ:=jj heq;clear hlt hgt heq e1 e2 hq;by_cases h1:dg x j<dg y j
    ·have d1:decide (((dg x j:Nat):Int)<((dg y j:Nat):Int))=true:=by simpa using h1
     have H1:=jj (HLT.out h1);go_wp2
     go_quiet (fail)
     go_wp2;go_ret;exact⟨by simp [cmpN,H1.out],hd.out.step _⟩
    ·have d1:decide (((dg x j:Nat):Int)<((dg y j:Nat):Int))=false:=by simpa using h1
     by_cases h2:dg y j<dg x j
     ·have d2:decide (((dg y j:Nat):Int)<((dg x j:Nat):Int))=true:=by simpa using h2
      have H1:=jj (HGT.out h2);go_wp2
      go_quiet (fail)
      go_wp2
      go_quiet (fail)
      go_wp2;go_ret;refine⟨?_,(hd.out.step _).step _⟩;have:=H1.out;have q3:¬ x<y:=by omega
      have q4:¬ x=y:=by omega
      simp [cmpN,q3,q4]
     ·have d2:decide (((dg y j:Nat):Int)<((dg x j:Nat):Int))=false:=by simpa using h2
      have H1:=jj (HEQ.out (by omega));go_wp2
      go_quiet (fail)
      go_wp2
      go_quiet (fail)
      go_wp2;go_roundw
      case rel=>exact⟨j,by omega,rfl,jj (hd.out.step _),H1⟩
      case measure=>simp [intOf]
   ·obtain rfl:k=0:=by omega
    have hxy:x=y:=by have:=HQ.out;simpa using this
    have HXY:=jj hxy;clear hxy;have g0:decide ((0:Int)<=((0:Nat):Int) - 1)=false:=by decide
    go_wp2;go_ret;exact⟨by simp [cmpN,HXY.out],hd.out⟩
 ·have hl1:(((nd x:Nat):Int) != ((nd y:Nat):Int))=true:=by simp;omega
  have HD:=jj hl;by_cases hd:nd x<nd y
  ·clear hl;have hd1:decide (((nd x:Nat):Int)<((nd y:Nat):Int))=true:=by simpa using hd
   go_enter Tryz.func80,Tryz.ntmps80;go_wp2;go_ret;refine⟨?_,Drawn.refl _⟩
   have:x<y:=by
    rcases Nat.lt_or_ge x y with q | q
    ·exact q
    ·have:=nd_mono q;omega
   simp [cmpN,this]
  ·clear hl;have hd1:decide (((nd x:Nat):Int)<((nd y:Nat):Int))=false:=by simp;omega
   go_enter Tryz.func80,Tryz.ntmps80;go_wp2;go_ret;refine⟨?_,Drawn.refl _⟩
   have:y<x:=by
    rcases Nat.lt_or_ge y x with q | q
    ·exact q
    ·have:=nd_mono q;have:=HD.out;omega
   have q3:¬ x<y:=by omega
   have q4:¬ x=y:=by omega
   simp [cmpN,q3,q4]
theorem own2_block {w w':World} {b:Nat} {row:Option Nat} {x y:Value} (h:Own2 w b x y) (hg:w.grownBy w' row) (hne:some b≠row):Own2 w' b x y:=
 have e:=hg.block b h.lt hne;have c:∀ o,w'.cell? ⟨b,o,none⟩=w.cell? ⟨b,o,none⟩:=fun o=>World.cell?_of_block (a:=⟨b,o,none⟩) e
 ⟨(c 0).trans h.c0,(c 1).trans h.c1,fun o=>(World.frozen?_of_block (a:=⟨b,o,none⟩) e).trans (h.f o),jm h.lt hg.size⟩
theorem lean_fin {w w3:World} {B k b1 b2:Nat} {va:Option Addr} {vk:Nat} {xs:List Value} (hown:w3.ownsRow B 3 1 (.slice va k vk) k xs) (hb:Below w.heap.size w w3) (h1:w.heap.size<=b1) (h2:b1<B) (h3:w.heap.size<=b2) (h4:b2<B) (u1 u2 u3 u4:Value) :
  ((((w3.setCell ⟨b1,1,none⟩ u1).setCell ⟨b1,0,none⟩ u2).setCell ⟨b2,0,none⟩ u3).setCell ⟨b2,1,none⟩ u4).ownsRow B 3 1 (.slice va k vk) k xs/\
  Below w.heap.size w ((((w3.setCell ⟨b1,1,none⟩ u1).setCell ⟨b1,0,none⟩ u2).setCell ⟨b2,0,none⟩ u3).setCell ⟨b2,1,none⟩ u4):=
 ⟨ownsRow_setCell_below (ownsRow_setCell_below (ownsRow_setCell_below (ownsRow_setCell_below hown h2 _) h2 _) h4 _) h4 _,(((hb.setCell h1 _).setCell h1 _).setCell h3 _).setCell h3 _⟩
theorem dg_of_own {w:World} {B:Nat} {va:Option Addr} {vk n:Nat} {f:Nat->Nat} (hf:∀ i,i<n->f i<10000) (h:w.ownsRow B 3 1 (.slice va (trimN f n) vk) (trimN f n) (ics (dI f) (trimN f n))):Dg w (.slice va (trimN f n) vk) (valD f n):=by
 have hi:=ints_of_own h;unfold Dg Raw;rw [nd_valD f n hf];obtain⟨a,b,o,c,he,hs⟩:=hi;refine⟨a,b,o,c,he,hs.congr (fun i hi=>?_)⟩;have:=trimN_le f n;simp only [ic,dI];rw [dg_valD f n hf i (by omega)]
theorem lean_own (u:Value) (s:Bool) (n:Nat) (f:Nat->Nat) (w:World) (hu:Raw w u n f) (hf:∀ i,i<n->f i<10000) (hn:n<=1099511627776) :
  Calls Tryz.prog 78 #[.agg #[.bool s,u]] w fun e w'=>∃ u',e = .returned (.agg #[.bool (s && decide (0<valD f n)),u'])/\Dg w' u' (valD f n)/\(∀ k,u'.ownBlock=some k->w.heap.size<=k)/\Below w.heap.size w w':=by
 obtain⟨a,b,o,c,rfl,hs⟩:=hu;obtain⟨i0,hinf,hz0,hz1,hz2⟩:=info_parts infoI;have hz:=sliced_zero;have hc:=hs.cap;have HF:=jj hf;have HS:=jj hs;have OA0:=jj ((own2_new w w.heap.size rfl (.bool s) (.slice a n c) 38).alloc (.cells #[.bool false,.slice none 0 0] 38));have OR0:=jj (own2_new (w.alloc (.cells #[.bool s,.slice a n c] 38)) (w.heap.size+1) (by simp) (.bool false) (.slice none 0 0) 38);have KW0:=jj (((jr w).alloc jl (.cells #[.bool s,.slice a n c] 38)).alloc (by simp) (.cells #[.bool false,.slice none 0 0] 38));have HB0:Hid (IsSl ((w.alloc (.cells #[.bool s,.slice a n c] 38)).alloc (.cells #[.bool false,.slice none 0 0] 38)) a b o c n (ic (dI f))):=jj ((hs.alloc _).alloc _);have SZ0:Hid (((w.alloc (.cells #[.bool s,.slice a n c] 38)).alloc (.cells #[.bool false,.slice none 0 0] 38)).heap.size=w.heap.size+2):=jj (by simp);clear hs hf;go_enter Tryz.func78,Tryz.ntmps78
 go_upto_block 0 with (fail)
 go_cut [3] (fun v3 wx=>v3 = .int .i64 (trimN f n:Nat)/\Hid (Own2 wx w.heap.size (.bool s) (.slice a n c))/\Hid (Own2 wx (w.heap.size+1) (.bool false) (.slice none 0 0))/\Hid (IsSl wx a b o c n (ic (dI f)))/\Hid (Below w.heap.size w wx)/\Hid (wx.heap.size=w.heap.size+2))
 case first=>
  go_wp2_with fail
  go_loop [3] (fun v3=>∃ k:Nat,k<=n/\v3 = .int .i64 (k:Nat)/\Hid (trimN f n=trimN f k)) (fun v3=>(intOf v3).toNat)
  case atStart=>exact⟨n,Nat.le_refl _,rfl,jj rfl⟩
  case round=>
   obtain⟨k,hk,rfl,HT⟩:=hrel;by_cases h0:0<k
   ·obtain⟨j,rfl⟩:∃ j,k=j+1:=⟨k - 1,by omega⟩;have hj:j<n:=by omega
    have g0:decide ((0:Int)<((j+1:Nat):Int))=true:=by simp
    have w1:IntKind.i64.wrap (((j+1:Nat):Int) - 1)=(j:Int):=by rw [IntKind.wrap_i64];omega
    have ix:=fun W=>ixI HB0.out j c hj W
    have cl:=HB0.out.cell j hj;simp only [ic,dI] at cl;by_cases hz2:f j=0
    ·have d1:(((f j:Nat):Int) == 0)=true:=by simp [hz2]
     have HT2:Hid (trimN f n=trimN f j):=jj (by rw [HT.out];simp only [trimN];rw [if_pos hz2]);clear hz2;go_wp2
     go_round
     case rel=>exact⟨j,by omega,by simp,HT2⟩
     case measure=>simp [intOf]
    ·have d1:(((f j:Nat):Int) == 0)=false:=by simp;omega
     have HT2:Hid (trimN f n=j+1):=jj (by rw [HT.out];simp only [trimN];rw [if_neg hz2]);clear hz2;go_wp2;go_meet
     case rel=>exact⟨by rw [HT2.out];simp,OA0,OR0,HB0,KW0,SZ0⟩
   ·obtain rfl:k=0:=by omega
    have HT2:Hid (trimN f n=0):=jj (by rw [HT.out];rfl);go_wp2;go_meet
    case rel=>exact⟨by rw [HT2.out];simp,OA0,OR0,HB0,KW0,SZ0⟩
 case rest=>
  clear OA0 OR0 KW0 HB0 SZ0;obtain⟨rfl,OA,OR,HB,KW,SZ⟩:=hcut;have hle:=trimN_le f n;have HV:=jj (nd_valD f n HF.out);have HDG0:=jj (fun (W:World) (B:Nat) (va:Option Addr) (vk:Nat) (h:W.ownsRow B 3 1 (.slice va (trimN f n) vk) (trimN f n) (ics (dI f) (trimN f n)))=>dg_of_own HF.out h);obtain⟨k,hk⟩:∃ k,k=trimN f n:=⟨_,rfl⟩;rw [<-hk] at HV HDG0 hle ⊢;have hkc:k<=c:=by omega
  have OW:Hid ((wc.alloc (.cells #[] 3)).ownsRow wc.heap.size 3 1 (.slice (some ⟨wc.heap.size,0,none⟩) 0 0) 0 []):=jj (World.ownsRow_made wc #[] 0 jl (by unfold maxLen;omega) rfl);have p0:=OA.out.c0;have p1:=OA.out.c1;have pf:=OA.out.f;have r0:=OR.out.c0;have r1:=OR.out.c1;have rf:=OR.out.f;have l1:=OA.out.lt;have l2:=OR.out.lt;clear hk;by_cases hk0:0<k
  ·obtain rfl:=HB.out.at_ (by omega);have HPOS:Hid (decide (0<valD f n)=true):=jj (by have:=HV.out;have:=nd_pos (valD f n);simp;omega);have HDG:Hid (∀ {W:World} {B:Nat} {va:Option Addr} {vk:Nat},W.ownsRow B 3 1 (.slice va k vk) k (ics (dI f) k)->Dg W (.slice va k vk) (valD f n)):=jj (fun h=>HDG0.out _ _ _ _ h);have HNW:=jj (news_of (HB.out.alloc (.cells #[] 3)) k hle);have HONE:=jj (ics_one (dI f) k);have HLEN:=jj (show (ics (dI f) k).length=k*1 by rw [ics_length];omega);clear HDG0;cases s with
   | true=>
    go_wp2_with (at_builtin;refine wpList_append_own _ rfl (.tmp 20) (.tmp 24) 24 rfl wc.heap.size 3 i0 (.int .i64 0) 1 8 Tryz.underlying24 hinf hz0 hz1 hz2 rfl (by decide) (.slice (some ⟨wc.heap.size,0,none⟩) 0 0) 0 [] rfl OW.out ⟨b,o,none⟩ k c (ics (dI f) k) rfl HLEN.out HNW.out HONE.out (by unfold maxLen;omega) (by omega) (by simp) ?_;intro v' w3 hown hgrow _;have KW3:=jj ((KW.out.alloc KW.out.size (.cells #[] 3)).grown hgrow (by have:=KW.out.size;simp;omega) (fun kk e=>by cases e;exact KW.out.size));have OA:=jj (own2_block (OA.out.alloc _) hgrow (by intro e;have:=Option.some.inj e;simp at this;omega));have OR:=jj (own2_block (OR.out.alloc _) hgrow (by intro e;have:=Option.some.inj e;simp at this;omega));rw [Nat.zero_add,List.nil_append] at hown;obtain⟨va,vk,rfl⟩:=own_shape hown;have HOWN:=jj hown;clear hown hgrow p1 p0 pf r0 r1 rf l1 l2;have p0:=OA.out.c0;have p1:=OA.out.c1;have pf:=OA.out.f;have r0:=OR.out.c0;have r1:=OR.out.c1;have rf:=OR.out.f;have l1:=OA.out.lt;have l2:=OR.out.lt);refine bodyPost_ret (v:=.agg #[.bool true,.slice va k vk]) (by simp [results,Tryz.results78,go_sem,p0,p1,pf,r0,r1,rf,l1,l2]) rfl ?_;obtain⟨f1,f2⟩:=lean_fin HOWN.out KW3.out (b1:=w.heap.size) (b2:=w.heap.size+1) jl (by have:=SZ.out;omega) (by omega) (by have:=SZ.out;omega) (.slice va k vk) (.bool true) (.bool true) (.slice va k vk);exact⟨_,by first | rfl | (rw [HPOS.out];done) | (simp [HPOS.out];done),HDG.out f1,fun kk ek=>Nat.le_trans KW.out.size (f1.lt kk ek).1,f2⟩
   | false=>
    go_wp2_with (at_builtin;refine wpList_append_own _ rfl (.tmp 20) (.tmp 24) 24 rfl wc.heap.size 3 i0 (.int .i64 0) 1 8 Tryz.underlying24 hinf hz0 hz1 hz2 rfl (by decide) (.slice (some ⟨wc.heap.size,0,none⟩) 0 0) 0 [] rfl OW.out ⟨b,o,none⟩ k c (ics (dI f) k) rfl HLEN.out HNW.out HONE.out (by unfold maxLen;omega) (by omega) (by simp) ?_;intro v' w3 hown hgrow _;have KW3:=jj ((KW.out.alloc KW.out.size (.cells #[] 3)).grown hgrow (by have:=KW.out.size;simp;omega) (fun kk e=>by cases e;exact KW.out.size));have OA:=jj (own2_block (OA.out.alloc _) hgrow (by intro e;have:=Option.some.inj e;simp at this;omega));have OR:=jj (own2_block (OR.out.alloc _) hgrow (by intro e;have:=Option.some.inj e;simp at this;omega));rw [Nat.zero_add,List.nil_append] at hown;obtain⟨va,vk,rfl⟩:=own_shape hown;have HOWN:=jj hown;clear hown hgrow p1 p0 pf r0 r1 rf l1 l2;have p0:=OA.out.c0;have p1:=OA.out.c1;have pf:=OA.out.f;have r0:=OR.out.c0;have r1:=OR.out.c1;have rf:=OR.out.f;have l1:=OA.out.lt;have l2:=OR.out.lt);refine bodyPost_ret (v:=.agg #[.bool false,.slice va k vk]) (by simp [results,Tryz.results78,go_sem,p0,p1,pf,r0,r1,rf,l1,l2]) rfl ?_;obtain⟨f1,f2⟩:=lean_fin HOWN.out KW3.out (b1:=w.heap.size) (b2:=w.heap.size+1) jl (by have:=SZ.out;omega) (by omega) (by have:=SZ.out;omega) (.slice va k vk) (.bool false) (.bool false) (.slice va k vk);exact⟨_,by first | rfl | (rw [HPOS.out];done) | (simp [HPOS.out];done),HDG.out f1,fun kk ek=>Nat.le_trans KW.out.size (f1.lt kk ek).1,f2⟩
  ·obtain rfl:k=0:=by omega
   have HPOS:Hid (decide (0<valD f n)=false):=jj (by have:=HV.out;have:=nd_pos (valD f n);simp;omega);have HDG:Hid (∀ {W:World} {B:Nat} {va:Option Addr} {vk:Nat},W.ownsRow B 3 1 (.slice va 0 vk) 0 []->Dg W (.slice va 0 vk) (valD f n)):=jj (fun h=>HDG0.out _ _ _ _ h);clear HDG0;rcases a with _ | ad
   ·obtain rfl:=HB.out.nc rfl;cases s with
    | true=>
     go_wp2_with (at_builtin;refine wpList_append_own_none rfl (.tmp 20) (.tmp 24) 24 rfl wc.heap.size 3 i0 1 Tryz.underlying24 hinf (.slice (some ⟨wc.heap.size,0,none⟩) 0 0) 0 [] rfl OW.out rfl ?_;clear p1 p0 pf r0 r1 rf l1 l2;have OA:=jj (OA.out.alloc (.cells #[] 3));have OR:=jj (OR.out.alloc (.cells #[] 3));have KW3:=jj (KW.out.alloc KW.out.size (.cells #[] 3));have HOWN:=OW;have p0:=OA.out.c0;have p1:=OA.out.c1;have pf:=OA.out.f;have r0:=OR.out.c0;have r1:=OR.out.c1;have rf:=OR.out.f;have l1:=OA.out.lt;have l2:=OR.out.lt);refine bodyPost_ret (v:=.agg #[.bool false,.slice (some ⟨wc.heap.size,0,none⟩) 0 0]) (by simp [results,Tryz.results78,go_sem,p0,p1,pf,r0,r1,rf,l1,l2]) rfl ?_;obtain⟨f1,f2⟩:=lean_fin HOWN.out KW3.out (b1:=w.heap.size) (b2:=w.heap.size+1) jl (by have:=SZ.out;omega) (by omega) (by have:=SZ.out;omega) (.slice (some ⟨wc.heap.size,0,none⟩) 0 0) (.bool false) (.bool false) (.slice (some ⟨wc.heap.size,0,none⟩) 0 0);exact⟨_,by first | rfl | (rw [HPOS.out];done) | (simp [HPOS.out];done),HDG.out f1,fun kk ek=>Nat.le_trans KW.out.size (f1.lt kk ek).1,f2⟩
    | false=>
     go_wp2_with (at_builtin;refine wpList_append_own_none rfl (.tmp 20) (.tmp 24) 24 rfl wc.heap.size 3 i0 1 Tryz.underlying24 hinf (.slice (some ⟨wc.heap.size,0,none⟩) 0 0) 0 [] rfl OW.out rfl ?_;clear p1 p0 pf r0 r1 rf l1 l2;have OA:=jj (OA.out.alloc (.cells #[] 3));have OR:=jj (OR.out.alloc (.cells #[] 3));have KW3:=jj (KW.out.alloc KW.out.size (.cells #[] 3));have HOWN:=OW;have p0:=OA.out.c0;have p1:=OA.out.c1;have pf:=OA.out.f;have r0:=OR.out.c0;have r1:=OR.out.c1;have rf:=OR.out.f;have l1:=OA.out.lt;have l2:=OR.out.lt);refine bodyPost_ret (v:=.agg #[.bool false,.slice (some ⟨wc.heap.size,0,none⟩) 0 0]) (by simp [results,Tryz.results78,go_sem,p0,p1,pf,r0,r1,rf,l1,l2]) rfl ?_;obtain⟨f1,f2⟩:=lean_fin HOWN.out KW3.out (b1:=w.heap.size) (b2:=w.heap.size+1) jl (by have:=SZ.out;omega) (by omega) (by have:=SZ.out;omega) (.slice (some ⟨wc.heap.size,0,none⟩) 0 0) (.bool false) (.bool false) (.slice (some ⟨wc.heap.size,0,none⟩) 0 0);exact⟨_,by first | rfl | (rw [HPOS.out];done) | (simp [HPOS.out];done),HDG.out f1,fun kk ek=>Nat.le_trans KW.out.size (f1.lt kk ek).1,f2⟩
   ·
    cases s with
    | true=>
     go_wp2_with (at_builtin;refine wpList_append_own _ rfl (.tmp 20) (.tmp 24) 24 rfl wc.heap.size 3 i0 (.int .i64 0) 1 8 Tryz.underlying24 hinf hz0 hz1 hz2 rfl (by decide) (.slice (some ⟨wc.heap.size,0,none⟩) 0 0) 0 [] rfl OW.out ad 0 c [] rfl rfl (fun j u h=>by simp at h) (fun u h=>by simp at h) (by unfold maxLen;omega) (by omega) (by simp) ?_;intro v' w3 hown hgrow _;have KW3:=jj ((KW.out.alloc KW.out.size (.cells #[] 3)).grown hgrow (by have:=KW.out.size;simp;omega) (fun kk e=>by cases e;exact KW.out.size));have OA:=jj (own2_block (OA.out.alloc _) hgrow (by intro e;have:=Option.some.inj e;simp at this;omega));have OR:=jj (own2_block (OR.out.alloc _) hgrow (by intro e;have:=Option.some.inj e;simp at this;omega));rw [Nat.zero_add,List.nil_append] at hown;obtain⟨va,vk,rfl⟩:=own_shape hown;have HOWN:=jj hown;clear hown hgrow p1 p0 pf r0 r1 rf l1 l2;have p0:=OA.out.c0;have p1:=OA.out.c1;have pf:=OA.out.f;have r0:=OR.out.c0;have r1:=OR.out.c1;have rf:=OR.out.f;have l1:=OA.out.lt;have l2:=OR.out.lt);refine bodyPost_ret (v:=.agg #[.bool false,.slice va 0 vk]) (by simp [results,Tryz.results78,go_sem,p0,p1,pf,r0,r1,rf,l1,l2]) rfl ?_;obtain⟨f1,f2⟩:=lean_fin HOWN.out KW3.out (b1:=w.heap.size) (b2:=w.heap.size+1) jl (by have:=SZ.out;omega) (by omega) (by have:=SZ.out;omega) (.slice va 0 vk) (.bool false) (.bool false) (.slice va 0 vk);exact⟨_,by first | rfl | (rw [HPOS.out];done) | (simp [HPOS.out];done),HDG.out f1,fun kk ek=>Nat.le_trans KW.out.size (f1.lt kk ek).1,f2⟩
    | false=>
     go_wp2_with (at_builtin;refine wpList_append_own _ rfl (.tmp 20) (.tmp 24) 24 rfl wc.heap.size 3 i0 (.int .i64 0) 1 8 Tryz.underlying24 hinf hz0 hz1 hz2 rfl (by decide) (.slice (some ⟨wc.heap.size,0,none⟩) 0 0) 0 [] rfl OW.out ad 0 c [] rfl rfl (fun j u h=>by simp at h) (fun u h=>by simp at h) (by unfold maxLen;omega) (by omega) (by simp) ?_;intro v' w3 hown hgrow _;have KW3:=jj ((KW.out.alloc KW.out.size (.cells #[] 3)).grown hgrow (by have:=KW.out.size;simp;omega) (fun kk e=>by cases e;exact KW.out.size));have OA:=jj (own2_block (OA.out.alloc _) hgrow (by intro e;have:=Option.some.inj e;simp at this;omega));have OR:=jj (own2_block (OR.out.alloc _) hgrow (by intro e;have:=Option.some.inj e;simp at this;omega));rw [Nat.zero_add,List.nil_append] at hown;obtain⟨va,vk,rfl⟩:=own_shape hown;have HOWN:=jj hown;clear hown hgrow p1 p0 pf r0 r1 rf l1 l2;have p0:=OA.out.c0;have p1:=OA.out.c1;have pf:=OA.out.f;have r0:=OR.out.c0;have r1:=OR.out.c1;have rf:=OR.out.f;have l1:=OA.out.lt;have l2:=OR.out.lt);refine bodyPost_ret (v:=.agg #[.bool false,.slice va 0 vk]) (by simp [results,Tryz.results78,go_sem,p0,p1,pf,r0,r1,rf,l1,l2]) rfl ?_;obtain⟨f1,f2⟩:=lean_fin HOWN.out KW3.out (b1:=w.heap.size) (b2:=w.heap.size+1) jl (by have:=SZ.out;omega) (by omega) (by have:=SZ.out;omega) (.slice va 0 vk) (.bool false) (.bool false) (.slice va 0 vk);exact⟨_,by first | rfl | (rw [HPOS.out];done) | (simp [HPOS.out];done),HDG.out f1,fun kk ek=>Nat.le_trans KW.out.size (f1.lt kk ek).1,f2⟩
theorem lean_any (u:Value) (s:Bool) (n:Nat) (f:Nat->Nat) (w:World) (hu:Raw w u n f) (hf:∀ i,i<n->f i<10000) (hn:n<=1099511627776) :
  Calls Tryz.prog 78 #[.agg #[.bool s,u]] w fun e w'=>∃ u',e = .returned (.agg #[.bool (s && decide (0<valD f n)),u'])/\Dg w' u' (valD f n)/\Below w.heap.size w w':=
 (lean_own u s n f w hu hf hn).mono (by
  rintro e w' ⟨u',rfl,h1,_,h2⟩;exact⟨u',rfl,h1,h2⟩)
end Go.Proofs.YtgmopcncbpdniaaGreat
namespace Go.Proofs.YtgmopcncbpdniaaGreat
open Go.RowKit
theorem valD_dg_le (x n:Nat) (h:nd x<=n):valD (dg x) n=x:=by
 rw [valD_dg,Nat.mod_eq_of_lt ((nd_le x n).1 h)]
theorem dg_far (x i:Nat) (h:nd x<=i):dg x i=0:=dg_zero_of_lt ((nd_le x i).1 h) jl
theorem addD_step (v x y cy dx dy P:Nat) (h:v+cy*P=x+y) :
  v+(cy+dx+dy) % 10000*P+(cy+dx+dy) / 10000*(P*10000)=(x+dx*P)+(y+dy*P):=by
 have e:=Nat.div_add_mod (cy+dx+dy) 10000;generalize (cy+dx+dy) / 10000=q at *
 generalize (cy+dx+dy) % 10000=r at *
 have:r*P+q*(P*10000)=(cy+dx+dy)*P:=by rw [<-e];grind
 have h2:(cy+dx+dy)*P=dx*P+dy*P+cy*P:=by grind
 omega
theorem valD_setN (f:Nat->Nat) (k d:Nat):valD (setN f k d) (k+1)=valD f k+d*10000 ^ k:=by
 simp only [valD];rw [setN_self,valD_congr (g:=f) (fun i hi=>setN_ne _ _ (by omega))]
theorem ics_setN (f:Nat->Nat) (k d:Nat):ics (dI f) k ++ [.int .i64 ((d:Nat):Int)]=ics (dI (setN f k d)) (k+1):=by
 rw [<-ics_succ];congr 1
 ·unfold ics
  exact List.map_congr_left fun i hi=>by
   have:i<k:=List.mem_range.1 hi;simp only [ic,dI];rw [setN_ne _ _ (by omega)]
 ·simp only [dI];rw [setN_self]
theorem setN_lt {f:Nat->Nat} {k d B:Nat} (hf:∀ j,j<k->f j<B) (hd:d<B):∀ j,j<k+1->setN f k d j<B:=fun j hj=>by
 by_cases e:j=k
 ·rw [e,setN_self];exact hd
 ·rw [setN_ne _ _ e];exact hf j (by omega)
theorem bplus_any (u v:Value) (x y:Nat) (w:World) (hu:Dg w u x) (hv:Dg w v y) (bx:nd x<=549755813888) (b_y:nd y<=549755813888) :
  Calls Tryz.prog 79 #[u,v] w fun e w'=>∃ r n f,e = .returned r/\Raw w' r n f/\(∀ i,i<n->f i<10000)/\valD f n=x+y/\n<=max (nd x) (nd y)+1/\Below w.heap.size w w':=by
 obtain⟨a1,b1,o1,c1',rfl,s1⟩:=hu;obtain⟨a2,b2,o2,c2',rfl,s2⟩:=hv;have S1:=jj s1;have S2:=jj s2;obtain⟨i0,hinf,hz0,hz1,hz2'⟩:=info_parts infoI;obtain⟨M,hM⟩:∃ M,M=max (nd x) (nd y):=⟨_,rfl⟩;have m1:nd x<=M:=by omega
 have m2:nd y<=M:=by omega
 have m3:M<=549755813888:=by omega
 rw [<-hM];have HM:=jj hM;have KW0:=jj ((jr w).alloc jl (.cells #[] 3));have OW0:=jj (World.ownsRow_made (e:=3) (base:=w.heap.size) (size:=1) w #[] 0 jl (by unfold maxLen;omega) rfl);clear s1 s2 hM;go_enter Tryz.func79,Tryz.ntmps79;go_wp2_with fail;go_loopw [5,6,7,8] (fun v5 v6 v7 _ wr=>∃ (k cy:Nat) (f:Nat->Nat),k<=M+1/\v7 = .int .i64 (k:Nat)/\v6 = .int .i64 (cy:Nat)/\cy<=1/\∃ va vk,v5 = .slice va k vk/\Hid (wr.ownsRow w.heap.size 3 1 (.slice va k vk) k (ics (dI f) k))/\Hid (∀ i,i<k->f i<10000)/\Hid (valD f k+cy*10000 ^ k=valD (dg x) k+valD (dg y) k)/\Hid (k<=M\/cy=0)/\Hid (Below w.heap.size w wr)) (fun _ _ v7 _ _=>M+1 - (intOf v7).toNat)
 case atStart=>exact⟨0,0,fun _=>0,by omega,rfl,rfl,by omega,_,_,rfl,OW0,jj (fun i hi=>by omega),jj (by simp [valD]),jj (.inr rfl),KW0⟩
 case round=>
  clear KW0 OW0;obtain⟨k,cy,f,hk,rfl,rfl,hcy,va,vk,rfl,OW,HF,HV,HC,KW⟩:=hrel
  go_upto_region 3 with (fail)
  go_cut [23] (fun v23 wx=>v23 = .bool (decide (k<nd x\/k<nd y\/0<cy))/\Hid (wx.ownsRow w.heap.size 3 1 (.slice va k vk) k (ics (dI f) k))/\Hid (Below w.heap.size w wx))
  case first=>
   by_cases c1:k<nd x
   ·have d1:decide ((k:Int)<((nd x:Nat):Int))=true:=by simpa using c1
    have d1n:decide (k<nd x)=true:=by simpa using c1
    have HE:Hid (decide (k<nd x\/k<nd y\/0<cy)=true):=jj (by simp [c1]);go_wp2;go_meet
    case rel=>exact⟨by rw [HE.out],OW,KW⟩
   ·have d1:decide ((k:Int)<((nd x:Nat):Int))=false:=by simpa using c1
    have d1n:decide (k<nd x)=false:=by simpa using c1
    by_cases c2:k<nd y
    ·have d2:decide ((k:Int)<((nd y:Nat):Int))=true:=by simpa using c2
     have d2n:decide (k<nd y)=true:=by simpa using c2
     have HE:Hid (decide (k<nd x\/k<nd y\/0<cy)=true):=jj (by simp [c2]);go_wp2;go_meet
     case rel=>exact⟨by rw [HE.out],OW,KW⟩
    ·have d2:decide ((k:Int)<((nd y:Nat):Int))=false:=by simpa using c2
     have d2n:decide (k<nd y)=false:=by simpa using c2
     by_cases c3:0<cy
     ·have d3:decide ((0:Int)<(cy:Int))=true:=by simpa using c3
      have HE:Hid (decide (k<nd x\/k<nd y\/0<cy)=true):=jj (by simp [c3]);go_wp2;go_meet
      case rel=>exact⟨by rw [HE.out],OW,KW⟩
     ·have d3:decide ((0:Int)<(cy:Int))=false:=by simpa using c3
      have HE:Hid (decide (k<nd x\/k<nd y\/0<cy)=false):=jj (by simp [c1,c2,c3]);go_wp2;go_meet
      case rel=>exact⟨by rw [HE.out],OW,KW⟩
  case rest=>
   clear OW KW;obtain⟨rfl,OW,KW⟩:=hcut;by_cases cc:k<nd x\/k<nd y\/0<cy
   ·have e0:decide (k<nd x\/k<nd y\/0<cy)=true:=by simpa using cc
    rw [e0];have hkM:k<=M:=by have:=HC.out;omega
    have hdx:=dg_lt x k;have hdy:=dg_lt y k;clear e0 cc
    go_upto_if 30 with (fail)
    go_cut [8] (fun v8 wx=>v8 = .int .i64 ((cy+dg x k:Nat):Int)/\Hid (wx.ownsRow w.heap.size 3 1 (.slice va k vk) k (ics (dI f) k))/\Hid (Below w.heap.size w wx))
    case first=>
     by_cases c1:k<nd x
     ·have d1:decide ((k:Int)<((nd x:Nat):Int))=true:=by simpa using c1
      have d1n:decide (k<nd x)=true:=by simpa using c1
      have ix:=fun W=>ixI S1.out k c1' c1 W
      have cl:=(S1.out.mono KW.out jl).cell k c1;simp only [ic,dI] at cl;go_wp2;go_meet
      case rel=>exact⟨by simp,OW,KW⟩
     ·have d1:decide ((k:Int)<((nd x:Nat):Int))=false:=by simpa using c1
      have d1n:decide (k<nd x)=false:=by simpa using c1
      have HZ:Hid (dg x k=0):=jj (dg_far x k (by omega));go_wp2;go_meet
      case rel=>exact⟨by rw [HZ.out];simp,OW,KW⟩
    case rest=>
     clear OW KW;obtain⟨rfl,OW,KW⟩:=hcut;obtain⟨t,ht⟩:∃ t,t=cy+dg x k:=⟨_,rfl⟩;rw [<-ht];have ht2:t<=10000:=by omega
     have HTT:=jj ht;clear ht
     go_upto_if 40 with (fail)
     go_cut [8] (fun v8 wx=>v8 = .int .i64 ((t+dg y k:Nat):Int)/\Hid (wx.ownsRow w.heap.size 3 1 (.slice va k vk) k (ics (dI f) k))/\Hid (Below w.heap.size w wx))
     case first=>
      by_cases c1:k<nd y
      ·have d1:decide ((k:Int)<((nd y:Nat):Int))=true:=by simpa using c1
       have d1n:decide (k<nd y)=true:=by simpa using c1
       have ix:=fun W=>ixI S2.out k c2' c1 W
       have cl:=(S2.out.mono KW.out jl).cell k c1;simp only [ic,dI] at cl;go_wp2;go_meet
       case rel=>exact⟨by simp,OW,KW⟩
      ·have d1:decide ((k:Int)<((nd y:Nat):Int))=false:=by simpa using c1
       have d1n:decide (k<nd y)=false:=by simpa using c1
       have HZ:Hid (dg y k=0):=jj (dg_far y k (by omega));go_wp2;go_meet
       case rel=>exact⟨by rw [HZ.out];simp,OW,KW⟩
     case rest=>
      clear OW KW;obtain⟨rfl,OW,KW⟩:=hcut;obtain⟨z,hz⟩:∃ z,z=t+dg y k:=⟨_,rfl⟩;rw [<-hz];have hzl:z<=20000:=by omega
      have hstep:=addD_step (valD f k) (valD (dg x) k) (valD (dg y) k) cy (dg x k) (dg y k) (10000 ^ k) HV.out;rw [show cy+dg x k+dg y k=z by rw [hz,HTT.out]] at hstep;have hz2:z / 10000<=1:=by rw [hz,HTT.out];omega
      have HST:=jj hstep;have hq:((z:Nat):Int) / 10000=((z / 10000:Nat):Int):=rfl;have hm:((z:Nat):Int) % 10000=((z % 10000:Nat):Int):=rfl
      have HMC:Hid (k+1<=M\/z / 10000=0):=jj (by
       by_cases e:k=M
       ·right;have z1:=dg_far x k (by omega);have z2:=dg_far y k (by omega);rw [hz,HTT.out];omega
       ·left;omega)
      obtain⟨d,hd⟩:∃ d,d=z % 10000:=⟨_,rfl⟩;have hdl:d<10000:=by rw [hd];exact Nat.mod_lt _ (by omega)
      obtain⟨cz,hcz⟩:∃ cz,cz=z / 10000:=⟨_,rfl⟩;rw [<-hd] at hm HST;rw [<-hcz] at hq HST HMC hz2;clear hz hd hcz hstep;go_wp2_with (at_builtin;refine wpList_append_own _ rfl (.tmp 47) (.tmp 50) 24 rfl w.heap.size 3 i0 (.int .i64 0) 1 8 Tryz.underlying24 hinf hz0 hz1 hz2' rfl (by decide) (.slice va k vk) k (ics (dI f) k) rfl (OW.out.alloc _) ⟨wc.heap.size,0,none⟩ 1 1 [.int .i64 ((d:Nat):Int)] rfl rfl (new1 wc (.int .i64 ((d:Nat):Int)) 3) (one1 _ rfl) (by unfold maxLen;omega) (by omega) (by have:=KW.out.size;simp;omega) ?_;intro v' w5 hown hgrow _;have KW5:=jj ((KW.out.alloc KW.out.size _).grown hgrow (by have:=KW.out.size;simp;omega) (fun kk e=>(OW.out.lt kk e).1));rw [ics_setN] at hown;obtain⟨va5,vk5,rfl⟩:=own_shape hown;have OW5:=jj hown;clear hown hgrow);go_roundw
      case rel=>
       refine⟨k+1,cz,setN f k d,by omega,by go_num,rfl,hz2,va5,vk5,rfl,OW5,jj (setN_lt HF.out hdl),jj ?_,HMC,KW5⟩;rw [valD_setN,Nat.pow_succ];exact HST.out
      case measure=>simp [intOf];omega
   ·have e0:decide (k<nd x\/k<nd y\/0<cy)=false:=by simpa using cc
    rw [e0]
    have HL:Hid (valD f k=x+y/\k<=M+1):=jj (by
     have h1:=HV.out;rw [valD_dg_le x k (by omega),valD_dg_le y k (by omega)] at h1;have:cy=0:=by omega
     subst this;exact⟨by omega,hk⟩)
    clear e0 cc;go_wp2;go_ret;exact⟨_,k,f,rfl,ints_of_own OW.out,HF.out,HL.out.1,HL.out.2,KW.out⟩
theorem subD_step (v x y bw dx dy d b P:Nat) (h:v+y=x+bw*P) (hd:(d:Int)=(dx:Int) - bw - dy+10000*b):v+d*P+(y+dy*P)=(x+dx*P)+b*(P*10000):=by
 have e2:d+dy+bw=dx+10000*b:=by omega
 have e3:d*P+dy*P+bw*P=dx*P+10000*b*P:=by rw [<-Nat.add_mul,<-Nat.add_mul,<-Nat.add_mul,e2]
 have e4:10000*b*P=b*(P*10000):=by grind
 omega
theorem bless_any (u v:Value) (x y:Nat) (w:World) (hu:Dg w u x) (hv:Dg w v y) (hle:y<=x) (bx:nd x<=549755813888) :
  Calls Tryz.prog 81 #[u,v] w fun e w'=>∃ r f,e = .returned r/\Raw w' r (nd x) f/\(∀ i,i<nd x->f i<10000)/\valD f (nd x)=x - y/\Below w.heap.size w w':=by
 obtain⟨a1,b1,o1,c1',rfl,s1⟩:=hu;obtain⟨a2,b2,o2,c2',rfl,s2⟩:=hv;have S1:=jj s1;have S2:=jj s2;obtain⟨i0,hinf,hz0,hz1,hz2'⟩:=info_parts infoI;have HLE:=jj hle;have hyx:=nd_mono hle;have KW0:=jj ((jr w).alloc jl (.cells #[] 3));have OW0:=jj (World.ownsRow_made (e:=3) (base:=w.heap.size) (size:=1) w #[] 0 jl (by unfold maxLen;omega) rfl);clear s1 s2 hle;go_enter Tryz.func81,Tryz.ntmps81;go_wp2_with fail;go_loopw [5,6,7,8] (fun v5 v6 v7 _ wr=>∃ (k bw:Nat) (f:Nat->Nat),k<=nd x/\v7 = .int .i64 (k:Nat)/\v6 = .int .i64 (bw:Nat)/\bw<=1/\∃ va vk,v5 = .slice va k vk/\Hid (wr.ownsRow w.heap.size 3 1 (.slice va k vk) k (ics (dI f) k))/\Hid (∀ i,i<k->f i<10000)/\Hid (valD f k+valD (dg y) k=valD (dg x) k+bw*10000 ^ k)/\Hid (Below w.heap.size w wr)) (fun _ _ v7 _ _=>nd x - (intOf v7).toNat)
 case atStart=>exact⟨0,0,fun _=>0,by omega,rfl,rfl,by omega,_,_,rfl,OW0,jj (fun i hi=>by omega),jj (by simp [valD]),KW0⟩
 case round=>
  clear KW0 OW0;obtain⟨k,bw,f,hk,rfl,rfl,hbw,va,vk,rfl,OW,HF,HV,KW⟩:=hrel;by_cases h:k<nd x
  ·have d0:decide ((k:Int)<((nd x:Nat):Int))=true:=by simpa using h
   have d0n:decide (k<nd x)=true:=by simpa using h
   have hdx:=dg_lt x k;have hdy:=dg_lt y k;have ix:=fun W=>ixI S1.out k c1' h W
   have cl:=(S1.out.mono KW.out jl).cell k h;simp only [ic,dI] at cl
   go_upto_if 25 with (fail)
   clear ix cl
   go_cut [8] (fun v8 wx=>v8 = .int .i64 (((dg x k:Nat):Int) - (bw:Int) - ((dg y k:Nat):Int))/\Hid (wx.ownsRow w.heap.size 3 1 (.slice va k vk) k (ics (dI f) k))/\Hid (Below w.heap.size w wx))
   case first=>
    by_cases c1:k<nd y
    ·have d1:decide ((k:Int)<((nd y:Nat):Int))=true:=by simpa using c1
     have d1n:decide (k<nd y)=true:=by simpa using c1
     have ix:=fun W=>ixI S2.out k c2' c1 W
     have cl:=(S2.out.mono KW.out jl).cell k c1;simp only [ic,dI] at cl;go_wp2;go_meet
     case rel=>exact⟨by simp,OW,KW⟩
    ·have d1:decide ((k:Int)<((nd y:Nat):Int))=false:=by simpa using c1
     have d1n:decide (k<nd y)=false:=by simpa using c1
     have HZ:Hid (dg y k=0):=jj (dg_far y k (by omega));go_wp2;go_meet
     case rel=>exact⟨by rw [HZ.out];simp,OW,KW⟩
   case rest=>
    clear OW KW;obtain⟨rfl,OW,KW⟩:=hcut;obtain⟨s,hs⟩:∃ s:Int,s=((dg x k:Nat):Int) - (bw:Int) - ((dg y k:Nat):Int):=⟨_,rfl⟩;rw [<-hs];have hs1 : -10000<=s:=by omega
    have hs2:s<=9999:=by omega
    have HS:=jj hs;clear hs
    go_upto_if 33 with (fail)
    go_cut [6,8] (fun v6 v8 wx=>∃ d b:Nat,v6 = .int .i64 (b:Nat)/\v8 = .int .i64 (d:Nat)/\d<10000/\b<=1/\Hid ((d:Int)=s+10000*(b:Int))/\Hid (wx.ownsRow w.heap.size 3 1 (.slice va k vk) k (ics (dI f) k))/\Hid (Below w.heap.size w wx))
    case first=>
     by_cases c1:s<0
     ·have d1:decide (s<0)=true:=by simpa using c1
      go_wp2;go_meet
      case rel=>exact⟨(s+10000).toNat,1,rfl,by rw [Int.toNat_of_nonneg (by omega)],by omega,by omega,jj (by rw [Int.toNat_of_nonneg (by omega)];omega),OW,KW⟩
     ·have d1:decide (s<0)=false:=by simpa using c1
      go_wp2;go_meet
      case rel=>exact⟨s.toNat,0,rfl,by rw [Int.toNat_of_nonneg (by omega)],by omega,by omega,jj (by rw [Int.toNat_of_nonneg (by omega)];omega),OW,KW⟩
    case rest=>
     clear OW KW;obtain⟨d,b,rfl,rfl,hd,hb,HDB,OW,KW⟩:=hcut;have HST:=jj (subD_step (valD f k) (valD (dg x) k) (valD (dg y) k) bw (dg x k) (dg y k) d b (10000 ^ k) HV.out (by have:=HDB.out;have:=HS.out;omega));go_wp2_with (at_builtin;refine wpList_append_own _ rfl (.tmp 36) (.tmp 38) 24 rfl w.heap.size 3 i0 (.int .i64 0) 1 8 Tryz.underlying24 hinf hz0 hz1 hz2' rfl (by decide) (.slice va k vk) k (ics (dI f) k) rfl (OW.out.alloc _) ⟨wc.heap.size,0,none⟩ 1 1 [.int .i64 ((d:Nat):Int)] rfl rfl (new1 wc (.int .i64 ((d:Nat):Int)) 3) (one1 _ rfl) (by unfold maxLen;omega) (by omega) (by have:=KW.out.size;simp;omega) ?_;intro v' w5 hown hgrow _;have KW5:=jj ((KW.out.alloc KW.out.size _).grown hgrow (by have:=KW.out.size;simp;omega) (fun kk e=>(OW.out.lt kk e).1));rw [ics_setN] at hown;obtain⟨va5,vk5,rfl⟩:=own_shape hown;have OW5:=jj hown;clear hown hgrow);go_roundw
     case rel=>
      refine⟨k+1,b,setN f k d,by omega,by go_num,rfl,hb,va5,vk5,rfl,OW5,jj (setN_lt HF.out hd),jj ?_,KW5⟩;rw [valD_setN,Nat.pow_succ];exact HST.out
     case measure=>simp [intOf];omega
  ·obtain rfl:k=nd x:=by omega
   have d0:decide (((nd x:Nat):Int)<((nd x:Nat):Int))=false:=by simp
   have HL:Hid (valD f (nd x)=x - y):=jj (by
    have h1:=HV.out;rw [valD_nd,valD_dg_le y _ hyx] at h1;have h2:=valD_lt f (nd x) HF.out;have h3:=HLE.out;have:bw=0\/bw=1:=by omega
    rcases this with e | e
    ·subst e;omega
    ·subst e;omega)
   go_wp2;go_ret;exact⟨_,f,rfl,ints_of_own OW.out,HF.out,HL.out,KW.out⟩
end Go.Proofs.YtgmopcncbpdniaaGreat
