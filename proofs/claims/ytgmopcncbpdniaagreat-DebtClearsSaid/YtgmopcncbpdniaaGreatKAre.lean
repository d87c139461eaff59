import Derived.Test.YtgmopcncbpdniaaGreatKShelf
import Derived.Test.YtgmopcncbpdniaaGreatKFig
import Derived.Test.YtgmopcncbpdniaaGreatKQMat
import Derived.Test.YtgmopcncbpdniaaGreatKGrp2
set_option maxHeartbeats 4000000
set_option linter.unusedVariables false
set_option linter.unusedSimpArgs false
namespace Go.Proofs.YtgmopcncbpdniaaGreat
open Go.RowKit
attribute [local go_sem ↓] Go.wp_at_zero Go.wp_at_succ
theorem bytes_loop (bs:ByteArray):∀ (n i:Nat) (r:List UInt8),bs.size - i=n->ByteArray.toList.loop bs i r=r.reverse ++ bs.data.toList.drop i:=by
 intro n
 induction n with
 | zero=>
  intro i r h;unfold ByteArray.toList.loop;have:¬ i<bs.size:=by omega
  rw [if_neg this]
  have:bs.data.toList.drop i = []:=by
   apply List.drop_eq_nil_of_le;have h2:bs.data.toList.length=bs.size:=rfl;omega
  rw [this];simp
 | succ n ih=>
  intro i r h;unfold ByteArray.toList.loop;have hi:i<bs.size:=by omega
  rw [if_pos hi,ih (i+1) _ (by omega)];have h2:i<bs.data.toList.length:=hi;rw [List.drop_eq_getElem_cons h2];simp;show bs.get! i=_;unfold ByteArray.get!;exact getElem!_pos bs.data i hi
theorem bytes_list (s:ByteArray):s.toList=s.data.toList:=by
 unfold ByteArray.toList;rw [bytes_loop s _ 0 [] rfl];simp
theorem bytes_ne {s:ByteArray} {l:List UInt8} (h:s≠⟨l.toArray⟩):(s.toList == l)=false:=by
 rw [bytes_list];apply beq_false_of_ne;intro e;apply h;cases s;simp at e;subst e;simp
theorem Len10.uniq {x L M:Nat} (h:Len10 x L) (h':Len10 x M):L=M:=by
 rcases Nat.eq_zero_or_pos x with e | e
 ·rw [h.zero e,h'.zero e]
 ·obtain⟨a1,a2⟩:=h.ge e;obtain⟨b1,b2⟩:=h'.ge e
  have key:∀ {L M:Nat},10 ^ (L - 1)<=x->x<10 ^ M->0<L->L<=M:=fun h1 h2 h3=>by
   have h4:=(Nat.pow_lt_pow_iff_right (by omega:1<10)).1 (Nat.lt_of_le_of_lt h1 h2);omega
  exact Nat.le_antisymm (key a2 h'.lt a1) (key b2 h.lt b1)
theorem IsTxt.uniq {s t:ByteArray} {x:Nat} (h:IsTxt s x) (h':IsTxt t x):s=t:=by
 obtain⟨L,h1,h2,h3⟩:=h;obtain⟨M,g1,g2,g3⟩:=h';obtain rfl:=h1.uniq g1
 have hs:s.data.size=t.data.size:=by
  have a:s.data.size=s.size:=rfl;have b:t.data.size=t.size:=rfl;omega
 have hd:s.data=t.data:=by
  apply Array.ext hs;intro i hi hj;apply UInt8.toNat_inj.1;have a:=h3 i hi;have b:=g3 i hj;exact a.trans b.symm
 cases s;cases t;simp_all
theorem FracTxt.uniq {s t:ByteArray} {p:Int} {d:Nat} (h:FracTxt s p d) (h':FracTxt t p d):s=t:=by
 obtain⟨a,h1,h2⟩:=h;obtain⟨b,g1,g2⟩:=h';obtain rfl:=h1.uniq g1;rcases h2 with ⟨hd,rfl⟩ | ⟨hd,u,hu,rfl⟩
 ·rcases g2 with ⟨_,rfl⟩ | ⟨hd2,_⟩
  ·rfl
  ·exact absurd hd hd2
 ·rcases g2 with ⟨hd2,_⟩ | ⟨_,v,hv,rfl⟩
  ·exact absurd hd2 hd
  ·rw [hu.uniq hv]
theorem isTxt_one:IsTxt ⟨#[49]⟩ 1:=⟨1,⟨by decide,fun h=>by omega,fun _=>⟨by omega,by decide⟩⟩,rfl,fun i h=>by
 have:i=0:=by have:i<1:=h;omega
 subst this;rfl⟩
theorem isTxt_ne {s:ByteArray} {x:Nat} (h:IsTxt s x) (hx:x≠1):s≠⟨#[49]⟩:=fun e=>by
 obtain⟨L,h1,h2,h3⟩:=h;subst e;have hL:L=1:=h2.symm;subst hL;have h4:=h3 0 (by decide);have h5:=h1.lt;have h6:(48:Nat)+d10 x (1 - 1 - 0)=49:=by rw [<-h4];rfl
 unfold d10 at h6;simp at h6;omega
theorem rnum_any (x:Value) (q:Rat) (k:Nat) (w:World) (hx:QV w x q k) (hk:k<=100000000) (hN:MaxD q.num.natAbs) (hD:MaxD q.den) :
  Calls Tryz.prog 92 #[x] w fun e w'=>∃ t,e = .returned (.tuple #[.string t,.bool true])/\FracTxt t q.num q.den/\Below w.heap.size w w':=by
 obtain⟨s1,a1,n1,c1,t1,a2,n2,c2,rfl,HQ⟩:=hx.shape;have KW0:=jj (boxes1 w (.cells #[.bool s1,.slice a1 n1 c1,.bool t1,.slice a2 n2 c2] 40));have HQ:=jj (HQ.out.mono KW0.out jl);have O1:=jj (own4_new w w.heap.size rfl (.bool s1) (.slice a1 n1 c1) (.bool t1) (.slice a2 n2 c2) 40);have HND:=jj (And.intro hN hD);clear hx hN hD;obtain⟨x0,x1,x2,x3,xf,xl⟩:=O1.out;go_enter Tryz.func92,Tryz.ntmps92;go_wp2_with fail;refine (qv_low _ q k _ HQ.out (by omega)).mono ?_;rintro e w2 ⟨r2,rfl,hr2,hb2⟩;obtain⟨s3,a3,n3,c3,t3,a4,n4,c4,rfl,HZN,HZD,-⟩:=hr2.shape;have O1:=jj (O1.out.below hb2 O1.out.lt);have KW:=jj (jb KW0.out hb2);clear x0 x1 x2 x3 xf xl hb2 hr2 KW0 HQ;obtain⟨x0,x1,x2,x3,xf,xl⟩:=O1.out;go_wp2_with fail;have O2:=jj (O1.out.anew (.bool s3) (.slice a3 n3 c3) (.bool t3) (.slice a4 n4 c4));have HZN:=jj (HZN.out.at4 O1.out (.bool s3) (.slice a3 n3 c3) (.bool t3) (.slice a4 n4 c4));have HZD:=jj (HZD.out.at4 O1.out (.bool s3) (.slice a3 n3 c3) (.bool t3) (.slice a4 n4 c4));have KW:=jj (below_set4q KW.out jl (.bool s3) (.slice a3 n3 c3) (.bool t3) (.slice a4 n4 c4));clear x0 x1 x2 x3 xf xl O1;generalize ((((w2.setCell ⟨w.heap.size,0,none⟩ (.bool s3)).setCell ⟨w.heap.size,1,none⟩ (.slice a3 n3 c3)).setCell ⟨w.heap.size,2,none⟩ (.bool t3)).setCell ⟨w.heap.size,3,none⟩ (.slice a4 n4 c4))=w3 at *
 have HSG:Hid (s3=decide (q.num<0)):=jj HZN.out.sign;have HB1:=jj HZN.out.digits;have HB2:=jj HZD.out.digits
 have keepR:Hid (∀ w',Below w3.heap.size w3 w'->w'.cell? ⟨w.heap.size,0,none⟩=some (.bool s3)/\w'.cell? ⟨w.heap.size,1,none⟩=some (.slice a3 n3 c3)/\w'.cell? ⟨w.heap.size,2,none⟩=some (.bool t3)/\w'.cell? ⟨w.heap.size,3,none⟩=some (.slice a4 n4 c4)):=
  jj (fun w' hb=>⟨bel1 hb O2.out.c0 O2.out.lt,bel1 hb O2.out.c1 O2.out.lt,bel1 hb O2.out.c2 O2.out.lt,bel1 hb O2.out.c3 O2.out.lt⟩)
 have VL0:=jj (jr w3);have VL:=jj VL0.out.drew
 have HDG:Hid (∃ u2,Value.slice a4 n4 c4=u2/\Dg w3 u2 q.den):=jj (by
  obtain⟨u,e,h1,h2⟩:=HZD.out;injection e with e;injection e with e;simp only [List.cons.injEq,and_true] at e;obtain⟨-,e⟩:=e;exact⟨u,e,by simpa using h1⟩)
 obtain⟨u2,e2,hd2⟩:=HDG.out;subst e2;have HD2:=jj hd2;clear hd2 HDG
 go_region_held3 (fun w'=>w'.cell? ⟨w.heap.size,0,none⟩=some (.bool s3)/\w'.cell? ⟨w.heap.size,1,none⟩=some (.slice a3 n3 c3)/\w'.cell? ⟨w.heap.size,2,none⟩=some (.bool t3)/\w'.cell? ⟨w.heap.size,3,none⟩=some (.slice a4 n4 c4))
  (first | (with_reducible exact keepR.out _ VL0.out) | (with_reducible exact keepR.out _ VL.out))
  (first
  | (go_at_call 120;(with_reducible refine (zabs_any _ q.num k _ (HZN.out.mono VL.out jl)).mono ?_);rintro e w4 ⟨r4,rfl,hr4,hb4⟩;obtain⟨u4,rfl,hd4,-⟩:=hr4;have HD4:=jj hd4;clear hd4;have VL:=jj (jb VL.out hb4))
  | (go_at_call 124;have X1:=HD4.out;clear HD4;(with_reducible refine (figures_any _ _ _ _ X1 (by have:=HB1.out;simp;omega)).mono ?_);clear X1;rintro e w5 ⟨f5,rfl,hf5,hb5⟩;have HF5:=jj hf5;clear hf5;have VL:=jj (jb VL.out hb5))
  | (go_at_call 124;(with_reducible refine (figures_any _ _ _ _ (HD2.out.mono VL.out jl) (by have:=HB2.out;simp at this;omega)).mono ?_);rintro e w6 ⟨f6,rfl,hf6,hb6⟩;have HF6:=jj hf6;clear hf6;have VL:=jj (jb VL.out hb6)))
 have HF5:Hid (IsTxt f5 q.num.natAbs):=jj (by have h:=HF5.out;rw [Int.natAbs_natCast] at h;exact h);have O3:=jj (O2.out.below VL.out O2.out.lt);have KW:=jj (jb KW.out VL.out);have Z1:f5.size<=4000:=HF5.out.size (by omega) HND.out.1.lt;have Z2:f6.size<=4000:=HF6.out.size (by omega) HND.out.2.lt;have ha1:=nb1 Z1;have ha2:=nb2 Z1;have ha3:=nb3 Z1;have ha4:=nb4 Z1 Z2;have ha5:=nb5 Z1 Z2;have d1:decide ((4000:Int)<(f5.size:Int))=false:=by simp;omega
 have d2:decide ((4000:Int)<(f6.size:Int))=false:=by simp;omega
 have HFT:Hid (∀ r,r=(if s3=true then ⟨#[45]⟩ ++ f5 else f5)->(q.den=1->FracTxt r q.num q.den)/\(q.den≠1->FracTxt (r ++ (⟨#[47]⟩ ++ f6)) q.num q.den)):=jj (by
  intro r hr
  have e:r=(if q.num<0 then ⟨#[45]⟩ ++ f5 else f5):=by
   rw [hr,HSG.out];by_cases h:q.num<0 <;> simp [h]
  subst e;exact⟨fun h=>⟨f5,HF5.out,.inl ⟨h,rfl⟩⟩,fun h=>⟨f5,HF5.out,.inr ⟨h,f6,HF6.out,rfl⟩⟩⟩)
 obtain⟨x0,x1,x2,x3,xf,xl⟩:=O3.out;clear keepR VL VL0 HZN HZD HD2 HB1 HB2 O2 HSG;by_cases hd:q.den=1
 ·have hf6:f6=⟨#[49]⟩:=by
   have h1:=HF6.out;rw [hd] at h1;exact h1.uniq isTxt_one
  subst hf6;have HD1:=jj hd;clear hd;cases s3
  ·go_wp2;go_ret2;exact⟨_,rfl,(HFT.out f5 (by simp)).1 HD1.out,KW.out⟩
  ·go_wp2;go_ret2;exact⟨_,rfl,(HFT.out (⟨#[45]⟩ ++ f5) (by simp)).1 HD1.out,KW.out⟩
 ·have hf6:f6≠⟨#[49]⟩:=isTxt_ne HF6.out hd;have e1:(f6.toList == [49])=false:=bytes_ne hf6;have HD1:=jj hd;clear hd;cases s3
  ·go_wp2;go_ret2;exact⟨_,rfl,by first | exact (HFT.out f5 (by simp)).2 HD1.out | (rw [ByteArray.append_assoc];exact (HFT.out f5 (by simp)).2 HD1.out),KW.out⟩
  ·go_wp2;go_ret2;exact⟨_,rfl,by first | exact (HFT.out (⟨#[45]⟩ ++ f5) (by simp)).2 HD1.out | (rw [ByteArray.append_assoc];exact (HFT.out (⟨#[45]⟩ ++ f5) (by simp)).2 HD1.out),KW.out⟩
theorem is_any (s:ByteArray) (x:Value) (q:Rat) (k:Nat) (w:World) (hs:FracTxt s q.num q.den) (hx:QV w x q k) (hk:k<=100000000) (hN:MaxD q.num.natAbs) (hD:MaxD q.den) :
  Calls Tryz.prog 57 #[.string s,x] w fun e w'=>e = .returned (.bool true)/\Below w.heap.size w w':=by
 obtain⟨s1,a1,n1,c1,t1,a2,n2,c2,rfl,HQ⟩:=hx.shape;have KW0:=jj (boxes1 w (.cells #[.bool s1,.slice a1 n1 c1,.bool t1,.slice a2 n2 c2] 40));have HQ:=jj (HQ.out.mono KW0.out jl);have HS:=jj hs;have HND:=jj (And.intro hN hD);clear hx hs hN hD;go_enter Tryz.func57,Tryz.ntmps57;go_wp2_with fail;refine (rnum_any _ q k _ HQ.out hk HND.out.1 HND.out.2).mono ?_;rintro e w2 ⟨t,rfl,ht,hb⟩;obtain rfl:=HS.out.uniq ht;have KW0:=jj (jb KW0.out hb);clear hb ht;go_wp2;go_ret;exact⟨rfl,KW0.out⟩
set_option maxRecDepth 100000 in
theorem are_true (v x:Value) (n:Nat) (q:Nat->Rat) (ss:Nat->ByteArray) (K:Nat) (w:World) (hs:Strs w v n ss) (hx:VSl w x n q K) (ht:TxtQs n q ss) (hn:n<=1000) (hK:K<=100000000) :
  Calls Tryz.prog 26 #[v,x] w fun e w'=>e = .returned (.bool true)/\Below w.heap.size w w':=by
 obtain⟨a,b,o,c,rfl,hss⟩:=hs;obtain⟨g,gc,rfl,hgc,hgl,hgv⟩:=hx.val;have HS:=jj hss;have HV:=jj hgv;have HGL:=jj hgl;have HT:=jj ht;have KW0:=jj (jr w);have d0:((n:Int) != (n:Int))=false:=by simp
 clear hss hgv hgl ht hx;go_enter Tryz.func26,Tryz.ntmps26;go_wp2;go_loopw [5] (fun v5 wr=>∃ k:Nat,k<=n/\v5 = .int .i64 (k:Nat)/\Hid (Below w.heap.size w wr)) (fun v5 _=>n - (intOf v5).toNat)
 case atStart=>exact⟨0,by omega,rfl,KW0⟩
 case round=>
  clear KW0;obtain⟨k,hk,rfl,KW⟩:=hrel;by_cases h:k<n
  ·have e1:decide ((k:Int)<(n:Int))=true:=by simpa using h
   have e1n:decide (k<n)=true:=by simpa using h
   have ixp:=fun W=>ixV g n gc k h W
   have ixs:=fun W=>ixN HS.out k c h W
   obtain⟨s5,a5,n5,c5,t5,b5,l5,k5,z0,z1,z2,z3,zq⟩:=HV.out k h;have y1:=HS.out.cell k h;have HLT:=jj (HS.out.lt (show 0<n by omega))
   have keepR:Hid (∀ w',Below w.heap.size w w'->w'.cell? ⟨b,o+k,none⟩=some (.string (ss k))/\w'.cell? ⟨g,k*4,none⟩=some (.bool s5)/\w'.cell? ⟨g,k*4+1,none⟩=some (.slice a5 n5 c5)/\w'.cell? ⟨g,k*4+2,none⟩=some (.bool t5)/\w'.cell? ⟨g,k*4+3,none⟩=some (.slice b5 l5 k5)):=
    jj (fun w' hb=>⟨bel1 hb y1 HLT.out,bel1 hb z0 HGL.out,bel1 hb z1 HGL.out,bel1 hb z2 HGL.out,bel1 hb z3 HGL.out⟩)
   have HTX:=jj (HT.out.txt k h);have HQ:=jj zq;have KW0:=KW;have KW:=jj KW.out.drew;clear zq z0 z1 z2 z3 y1;go_wp2
   go_region_held3 (fun w'=>w'.cell? ⟨b,o+k,none⟩=some (.string (ss k))/\w'.cell? ⟨g,k*4,none⟩=some (.bool s5)/\w'.cell? ⟨g,k*4+1,none⟩=some (.slice a5 n5 c5)/\w'.cell? ⟨g,k*4+2,none⟩=some (.bool t5)/\w'.cell? ⟨g,k*4+3,none⟩=some (.slice b5 l5 k5))
    (first | (with_reducible exact keepR.out _ KW0.out) | (with_reducible exact keepR.out _ KW.out))
    (first | (go_at_call 57;(with_reducible refine (is_any (ss k) _ (q k) K _ HTX.out.txt (HQ.out.mono KW.out jl) hK HTX.out.mn HTX.out.md).mono ?_);rintro e w3 ⟨rfl,hb3⟩;have KW:=jj (jb KW.out hb3)))
   all_goals
    go_wp2;go_roundw
    case rel=>exact⟨k+1,by omega,by go_num,KW⟩
    case measure=>simp [intOf];omega
  ·obtain rfl:n=k:=by omega
   have e1:decide ((n:Int)<(n:Int))=false:=by simp
   go_wp2;go_ret;exact⟨rfl,KW.out⟩
end Go.Proofs.YtgmopcncbpdniaaGreat
