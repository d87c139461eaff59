import Derived.Test.YtgmopcncbpdniaaGreatIClr
import Derived.Test.YtgmopcncbpdniaaGreatIPlainL
import Derived.Test.YtgmopcncbpdniaaGreatIQDiv
import Derived.Deep.DeepCutAuto
import Derived.Deep.CutBlock
import Derived.Test.YtgmopcncbpdniaaGreatIRefQs
import Derived.Test.YtgmopcncbpdniaaGreatIRNum
import Derived.Test.YtgmopcncbpdniaaGreatIInt1
import Derived.Test.YtgmopcncbpdniaaGreatIRef1
import Derived.WalkLawsBesides
import Derived.Shelf.Strings.Search1
import Derived.Shelf.Strings.Search2
import Derived.Shelf.LaysM
import Derived.Test.YtgmopcncbpdniaaGreatProg
set_option linter.unusedVariables false
set_option linter.unusedSimpArgs false
namespace Go.Proofs.YtgmopcncbpdniaaGreat
open Go.RowKit
attribute [local go_sem ↓] Go.wp_at_zero Go.wp_at_succ
theorem keep_maxD {n:Nat} {cash:Nat→Int} {d:Nat→Nat→Int} {ps:(Nat→Bool)→Nat→Rat} (hR:Rng n cash d) (hn:n≤8) (hd:∀ i j,0≤d i j) (hps:PsOK n cash d ps) (q:Nat):∀ j,j<n→MaxD (keepP n cash d (PS n cash d ps q) j).num.natAbs∧MaxD (keepP n cash d (PS n cash d ps q) j).den:=fun j hj=>by
 obtain⟨x,hx⟩:=ps_rdy hps hR hd q
 have h:=keep_small hR hn hd (rnd_all hps hR hd q).nc hx.sol j hj
 exact⟨⟨Nat.lt_of_le_of_lt h.1 bd_keep⟩,⟨Nat.lt_of_le_of_lt h.2 bd_keep⟩⟩
set_option maxHeartbeats 4000000 in
set_option maxRecDepth 100000 in
theorem keeps_any (vc vd:Value) (n:Nat) (cash:Nat→Int) (m:Nat→Nat) (d:Nat→Nat→Int) (ps:(Nat→Bool)→Nat→Rat) (w:World) (hc:Ints w vc n cash) (hm:Mat w vd n m d) (hD:Debts n m d) (hC:∀ i,i<n→0≤cash i∧cash i≤1000) (hd:∀ i j,0≤d i j) (hps:PsOK n cash d ps) :
  Calls Tryz.prog 22 #[vc,vd] w fun e w'=>∃ q va vk ss,e = .returned (.tuple #[.slice va n vk,.int .i64 0])∧Last n cash d ps q∧TxtsOf n (keepP n cash d (PS n cash d ps q)) ss∧Sl w' (.slice va n vk) n (fun j=>.string (ss j))∧Below w.heap.size w w':=by
 obtain⟨i0,hi,hz0,hz1,hz2⟩:=info_parts infoR
 have HC:=Lib.hid hc
 have HD:=Lib.hid hm
 have HR:=Lib.hid (rng_of hD hC hd)
 have h0:0<n:=hD.1
 have h8:n≤8:=hD.2.1
 have HDD:=Lib.hid hd
 have HPS:=Lib.hid hps
 have HDB:=Lib.hid hD
 have HCB:=Lib.hid hC
 obtain⟨ca,cb,co,cc,rfl,hcs⟩:=hc
 obtain⟨da,db,d_o,dc,ra,rb,ro,rc,rfl,hdm⟩:=hm
 clear hcs hdm hD hC hd hps
 go_enter Tryz.func22,Tryz.ntmps22
 go_upto_region 6 with (first
  | (go_at_call 38;(with_reducible refine (read_ok _ _ n cash m d _ HC.out HD.out HDB.out HCB.out).mono ?_);rintro e w1 ⟨b,vt,rfl,hm,hb1⟩;have HM:=Lib.hid hm;have KW:=Lib.hid hb1;clear hm hb1)
  | (go_at_call 39;(with_reducible refine (rounds_any b n cash d _ _ _ ps _ HM.out h0 h8 HR.out HDD.out HPS.out).mono ?_);rintro e w2 ⟨q,oa,ok,ora,orc,P,rfl,hq1,hq2,hq3,-,hp,hb2⟩;have HL:Hid (Last n cash d ps q):=Lib.hid ⟨hq1,hq2,hq3⟩;have HP:=Lib.hid hp;have HM:=Lib.hid (HM.out.mono hb2 (Nat.le_refl _));have KW:=Lib.hid (KW.out.trans (hb2.mono KW.out.size));clear hp hb2 hq1 hq2 hq3))
 have c0:=HM.out.c0
 obtain⟨wL,rfl⟩:∃ wL:World,wL=w2:=⟨_,rfl⟩
 have VL0:=Lib.hid (Below.refl wL.heap.size wL)
 have BR0:Hid (BRow wL wL.heap.size (.slice none 0 0) 0 (keepP n cash d (PS n cash d ps q)) 210000 []):=Lib.hid (BRow.nil _ _ _ _)
 go_wp2
 go_loopw [10,11,29] (fun v10 v11 v29 wr=>∃ k:Nat,k≤n∧v29 = .int .i64 (k:Nat)∧∃ va vk xs,v10 = .slice va k vk∧Hid (BRow wr wL.heap.size (.slice va k vk) k (keepP n cash d (PS n cash d ps q)) 210000 xs)∧Hid (Below wL.heap.size wL wr)) (fun _ _ v29 _=>n - (intOf v29).toNat)
 case atStart=>exact⟨0,by omega,rfl,none,0,[],rfl,BR0,VL0⟩
 case round=>
  clear VL0 BR0
  obtain⟨k,hk,rfl,va,vk,xs,rfl,BR,VL⟩:=hrel
  by_cases h:k<n
  ·have ixr:=fun W=>rowIx P n n k h W
   obtain⟨sx,ax,nx,cx,ax2,nx2,cx2,PX,KX⟩:=HP.out.cell k h
   have PX:=Lib.hid PX
   have KX:=Lib.hid (KX trivial)
   have keepR:Hid (∀ w',Below wL.heap.size wL w'→w'.cell? ⟨P,k*4,none⟩=some (.bool sx)∧w'.cell? ⟨P,k*4+1,none⟩=some (.slice ax nx cx)∧w'.cell? ⟨P,k*4+2,none⟩=some (.bool false)∧w'.cell? ⟨P,k*4+3,none⟩=some (.slice ax2 nx2 cx2)):=
    Lib.hid (fun w' hb=>by obtain⟨e0,e1,e2,e3,_⟩:=PX.out.below hb PX.out.lt;exact⟨e0,e1,e2,e3⟩)
   have HCS:Hid (0≤cash k∧cash k≤100000):=Lib.hid (by have:=HR.out.csh k h;omega)
   have HDS:Hid (∀ j,j<n→0≤d j k∧d j k≤1000∧0≤sumF (d j) n∧sumF (d j) n≤100000):=Lib.hid (fun j hj=>⟨(HR.out.deb j k hj h).1,(HR.out.deb j k hj h).2,(HR.out.tot j hj).1,(HR.out.tot j hj).2⟩)
   have VL0:=VL
   have VL:=Lib.hid VL.out.drew
   have BR:=Lib.hid (BR.out.below (Below.refl wr.heap.size wr).drew)
   go_wp2
   go_region_held3 (fun w'=>w'.cell? ⟨P,k*4,none⟩=some (.bool sx)∧w'.cell? ⟨P,k*4+1,none⟩=some (.slice ax nx cx)∧w'.cell? ⟨P,k*4+2,none⟩=some (.bool false)∧w'.cell? ⟨P,k*4+3,none⟩=some (.slice ax2 nx2 cx2))
    (first | (with_reducible exact keepR.out _ VL0.out) | (with_reducible exact keepR.out _ VL.out) | (with_reducible exact keepR.out _ VLA.out))
    (first
    | (go_at_call 51;(with_reducible refine (has_any b n k cash d _ _ _ _ (HM.out.mono VL.out (Nat.le_refl _)) h h8 HDS.out HCS.out P 0 n (PS n cash d ps q) 200 (HP.out.below VL.out (Nat.le_refl _)).rats (by omega) (by omega)).mono ?_);rintro e wa ⟨ra',rfl,hra,hba⟩;obtain⟨sa,aa,na',ea,ba,ma,da,rfl,KH⟩:=hra.shape;clear hra;have BR:=Lib.hid (BR.out.below hba);have VL:=Lib.hid (VL.out.trans (hba.mono VL.out.size)))
    | (go_at_call 52;(with_reducible refine (rat_sub _ _ (hasQ n cash d (PS n cash d ps q) k) (PS n cash d ps q k) (512*(200+1)) _ KH.out ((KX.out.mono VL.out (Nat.le_refl _)).le (by omega)) (by omega) (by omega)).mono ?_);rintro e wb ⟨rb',rfl,hrb,hbb⟩;obtain⟨s6,a6,n6,c6,b6,m6,d6,rfl,KS⟩:=hrb.shape;clear hrb;have BR:=Lib.hid (BR.out.below hbb);have VL:=Lib.hid (VL.out.trans (hbb.mono VL.out.size));have VLA:=Lib.hid (VL.out.alloc VL.out.size (.cells #[.bool s6,.slice a6 n6 c6,.bool false,.slice b6 m6 d6] 92));have BRA:=Lib.hid (BR.out.alloc (.cells #[.bool s6,.slice a6 n6 c6,.bool false,.slice b6 m6 d6] 92));have NEW:=Lib.hid (own4_rd (own4_new wb wb.heap.size rfl (.bool s6) (.slice a6 n6 c6) (.bool false) (.slice b6 m6 d6) 92));have KSA:=Lib.hid (KS.out.mono (boxes1 wb (.cells #[.bool s6,.slice a6 n6 c6,.bool false,.slice b6 m6 d6] 92)) (Nat.le_refl _));have HA3:=Lib.hid VLA.out.size)
    | ((refine step_append_kind (by rfl) _ _ _ (by rfl) wL.heap.size 92 i0 _ 4 64 Tryz.underlying73 hi hz0 hz1 hz2 rfl (by decide) (.slice va k vk) k xs (by rfl) BRA.out.own BRA.out.kind (noLimb_4 _ _ _ _ _ _ _ _) ⟨wb.heap.size,0,none⟩ 1 1 [.bool s6,.slice a6 n6 c6,.bool false,.slice b6 m6 d6] (by rfl) (by rfl) (cells4' NEW.out) (one4' _ _ _ _ rfl rfl rfl rfl) (noLimb_4 _ _ _ _ _ _ _ _) (by unfold maxLen;omega) (by omega) HA3.out (by omega) ?_;intro v' w7 hown hgrow hblk hkind;obtain⟨va',vk',rfl⟩:=own_shape hown;have BR7:=Lib.hid (BRA.out.push (KSA.out.le (show 2*(512*(200+1))+1≤210000 by omega)) (by rw [hasQ_eq];rfl) hgrow hown hkind);have VLA:=Lib.hid (VLA.out.grown hgrow HA3.out (fun kk e=>(BRA.out.own.lt kk e).1)))))
   all_goals
    go_wp2
    go_roundw
    case rel=>exact⟨k+1,by omega,by go_num,va',vk',_,rfl,BR7,VLA⟩
    case measure=>simp [intOf];omega
  ·obtain rfl:k=n:=by omega
   obtain⟨g,cap,hge,hgb,RB⟩:=BR.out.row h0
   injection hge with e1 e2 e3
   subst e1 e3
   have RB:=Lib.hid RB
   have KW:=Lib.hid (KW.out.trans (VL.out.mono KW.out.size))
   go_wp2_with (go_at_call 40;go_loud ((with_reducible refine (nums_any g k vk _ 210000 _ RB.out.rats (by omega) (by omega) (keep_maxD HR.out h8 HDD.out HPS.out q)).mono ?_));rintro e w3 ⟨va,vk,ss,rfl,htx,hv,hb3⟩;have HTX:=Lib.hid htx;have HV:=Lib.hid hv;have KW:=Lib.hid (KW.out.trans (hb3.mono KW.out.size));clear hv hb3 htx)
   go_ret2
   exact⟨q,va,vk,ss,rfl,HL.out,HTX.out,Sl.of_own HV.out (fun i hi=>strL_get ss k i hi),KW.out⟩
end Go.Proofs.YtgmopcncbpdniaaGreat
namespace Go.Proofs.YtgmopcncbpdniaaGreat
open Go.RowKit
attribute [local go_sem ↓] Go.wp_at_zero Go.wp_at_succ
def shF (f:Nat→Nat):Nat→Nat
 | 0=>0
 | i+1=>if f i=47 then 0 else if f i=45 then shF f i else shF f i+1
theorem shF_run {f:Nat→Nat} (a:Nat):∀ k,(∀ i,i<k→f (a+i)≠47∧f (a+i)≠45)→shF f (a+k)=shF f a+k
 | 0,_=>rfl
 | k+1,h=>by
  rw [show a+(k+1)=a+k+1 by omega]
  simp only [shF]
  rw [if_neg (h k (by omega)).1,if_neg (h k (by omega)).2,shF_run a k (fun i hi=>h i (by omega))]
  omega
set_option maxHeartbeats 2000000 in
set_option maxRecDepth 100000 in
theorem short_any (s:ByteArray) (L n:Nat) (f:Nat→Nat) (b:Bool) (w:World) (hs:Bts s L f) (hL:L≤1000000) (hn:n≤1000000) (hb:b=true↔∀ i,i≤L→shF f i≤n) :
  Calls Tryz.prog 37 #[.string s,.int .i64 (n:Nat)] w fun e w'=>e = .returned (.bool b)∧Below w.heap.size w w':=by
 have HS:=Lib.hid hs
 obtain⟨rfl,hbt⟩:=hs
 have HB:=Lib.hid hbt
 have HOK:=Lib.hid hb
 clear hbt hb
 go_enter Tryz.func37,Tryz.ntmps37
 go_wp2
 go_loop [5,6] (fun v5 v6=>∃ k K:Nat,k≤s.size∧v6 = .int .i64 (k:Nat)∧v5 = .int .i64 (K:Nat)∧Hid (K=shF f k)∧Hid (∀ i,i≤k→shF f i≤n)) (fun v5 v6=>s.size - (intOf v6).toNat)
 case atStart=>exact⟨0,0,by omega,rfl,rfl,Lib.hid rfl,Lib.hid (fun i hi=>by rw [show i=0 by omega];exact Nat.zero_le _)⟩
 case round=>
  obtain⟨k,K,hk,rfl,rfl,HK,HG⟩:=hrel
  by_cases h:k<s.size
  ·have e1:decide ((k:Int)<(s.size:Int))=true:=by simpa using h
   have e1n:decide (k<s.size)=true:=by simpa using h
   have q0:(0:Int)≤((k:Nat):Int):=by omega
   have q1:((k:Nat):Int)<(s.size:Int):=by omega
   have xi:=HB.out k h
   have hKn:K≤n:=by rw [HK.out];exact HG.out k (Nat.le_refl _)
   obtain⟨c,hc⟩:∃ c,c=f k:=⟨_,rfl⟩
   rw [←hc] at xi
   have HC:=Lib.hid hc
   clear hc
   by_cases g1:c=47
   ·subst g1
    have hv:shF f (k+1)=0:=by simp only [shF];rw [if_pos HC.out.symm]
    have d1:decide ((n:Int)<0)=false:=by simp
    go_wp2
    go_round
    case rel=>exact⟨k+1,0,by omega,by go_num,rfl,Lib.hid hv.symm,Lib.hid (fun i hi=>by
     rcases Nat.lt_or_ge i (k+1) with e | e
     ·exact HG.out i (by omega)
     ·rw [show i=k+1 by omega,hv];exact Nat.zero_le _)⟩
    case measure=>simp [intOf];omega
   ·have b1:(((c:Nat):Int) == 47)=false:=by simp;omega
    by_cases g2:c=45
    ·subst g2
     have hv:shF f (k+1)=K:=by simp only [shF];rw [if_neg (by rw [←HC.out];decide),if_pos HC.out.symm,HK.out]
     have d1:decide ((n:Int)<(K:Int))=false:=by simp;omega
     go_wp2
     go_round
     case rel=>exact⟨k+1,K,by omega,by go_num,rfl,Lib.hid hv.symm,Lib.hid (fun i hi=>by
      rcases Nat.lt_or_ge i (k+1) with e | e
      ·exact HG.out i (by omega)
      ·rw [show i=k+1 by omega,hv];exact hKn)⟩
     case measure=>simp [intOf];omega
    ·have b2:(((c:Nat):Int) != 45)=true:=by simp;omega
     have hv:shF f (k+1)=K+1:=by simp only [shF];rw [if_neg (by rw [←HC.out];exact g1),if_neg (by rw [←HC.out];exact g2),HK.out]
     by_cases g3:K+1≤n
     ·have d1:decide ((n:Int)<(K:Int)+1)=false:=by simp;omega
      go_wp2
      go_round
      case rel=>exact⟨k+1,K+1,by omega,by go_num,by go_num,Lib.hid hv.symm,Lib.hid (fun i hi=>by
       rcases Nat.lt_or_ge i (k+1) with e | e
       ·exact HG.out i (by omega)
       ·rw [show i=k+1 by omega,hv];exact g3)⟩
      case measure=>simp [intOf];omega
     ·have d1:decide ((n:Int)<(K:Int)+1)=true:=by simp;omega
      obtain rfl:b=false:=bool_false HOK.out (fun q=>by have:=q (k+1) (by omega);omega)
      go_wp2
      go_ret
      exact⟨rfl,Below.refl _ _⟩
  ·obtain rfl:s.size=k:=by omega
   have e1:decide ((s.size:Int)<(s.size:Int))=false:=by simp
   obtain rfl:b=true:=HOK.out.2 HG.out
   go_wp2
   go_ret
   exact⟨rfl,Below.refl _ _⟩
end Go.Proofs.YtgmopcncbpdniaaGreat
namespace Go.Proofs.YtgmopcncbpdniaaGreat
open Go.RowKit
attribute [local go_sem ↓] Go.wp_at_zero Go.wp_at_succ
theorem empty_iff {s:ByteArray} : s.toList.isEmpty=true↔s.size=0:=by
 rw [bytes_list]
 constructor
 ·intro h
  show s.data.size=0
  rw [←Array.length_toList,List.isEmpty_iff.1 h];rfl
 ·intro h
  have h:s.data.size=0:=h
  rw [←Array.length_toList] at h
  rw [List.length_eq_zero_iff.1 h];rfl
theorem not_empty {s:ByteArray} (h:0<s.size):s.toList.isEmpty=false:=by
 cases e:s.toList.isEmpty
 ·rfl
 ·have:=empty_iff.1 e;omega
theorem limb_sl (w:World) (c:Nat):IsSl (w.alloc (.cells #[.int .u32 ((c:Nat):Int)] 145)) (some ⟨w.heap.size,0,none⟩) w.heap.size 0 1 1 (fun _=>.int .u32 ((c:Nat):Int)):=by
 refine⟨Nat.le_refl _,fun _=>rfl,fun _=>by simp,fun i hi=>?_,fun e=>by cases e⟩
 obtain rfl:i=0:=by omega
 simp [go_sem]
theorem limb_new (w:World) (c:Nat) (hc:c<4294967296):Mag (w.alloc (.cells #[.int .u32 ((c:Nat):Int)] 145)) (.slice (some ⟨w.heap.size,0,none⟩) (trimN (fun _=>c) 1) 1) c:=by
 have h:=trim_mag (w:=w.alloc (.cells #[.int .u32 ((c:Nat):Int)] 145)) (a:=some ⟨w.heap.size,0,none⟩) (b:=w.heap.size) (o:=0) (c:=1) (n:=1) (f:=fun _=>c) (fun _ _=>hc) (limb_sl w c)
 have e:valF (fun _=>c) 1=c:=by simp [valF]
 rw [e] at h
 exact h
set_option maxHeartbeats 8000000 in
set_option maxRecDepth 100000 in
theorem nread_any (s:ByteArray) (L:Nat) (f:Nat→Nat) (b:Bool) (w:World) (hs:Bts s L f) (hL:L≤1000000) (hb:b=true↔okD L f) :
  Calls Tryz.prog 104 #[.string s] w fun e w'=>∃ v,e = .returned (.tuple #[v,.bool b])∧Mag w' v (if b then numD L f else 0)∧Below w.heap.size w w':=by
 have HS:=Lib.hid hs
 obtain⟨rfl,hbt⟩:=hs
 have HB:=Lib.hid hbt
 have HOK:=Lib.hid hb
 clear hbt hb
 go_enter Tryz.func104,Tryz.ntmps104
 go_wp2
 go_loop [12] (fun v12=>∃ k:Nat,k≤s.size∧v12 = .int .i64 (k:Nat)∧Hid (∀ i,i<k→48≤f i∧f i≤57)) (fun v12=>s.size - (intOf v12).toNat)
 case atStart=>exact⟨0,by omega,rfl,Lib.hid (fun i hi=>by omega)⟩
 case round=>
  obtain⟨k,hk,rfl,HG⟩:=hrel
  by_cases h:k<s.size
  ·have e1:decide ((k:Int)<(s.size:Int))=true:=by simpa using h
   have e1n:decide (k<s.size)=true:=by simpa using h
   have q0:(0:Int)≤((k:Nat):Int):=by omega
   have q1:((k:Nat):Int)<(s.size:Int):=by omega
   have xi:=HB.out k h
   obtain⟨c,hc⟩:∃ c,c=f k:=⟨_,rfl⟩
   rw [←hc] at xi
   have HC:=Lib.hid hc
   clear hc
   by_cases g1:48≤c
   ·have d1:decide (((c:Nat):Int)<48)=false:=by simp;omega
    by_cases g2:c≤57
    ·have d2:decide ((57:Int)<((c:Nat):Int))=false:=by simp;omega
     have HCG:Hid (48≤f k∧f k≤57):=Lib.hid (by rw [←HC.out];exact⟨g1,g2⟩)
     clear g1 g2
     go_wp2
     go_round
     case rel=>exact⟨k+1,by omega,by go_num,Lib.hid (ext_lt HG.out HCG.out)⟩
     case measure=>simp [intOf];omega
    ·have d2:decide ((57:Int)<((c:Nat):Int))=true:=by simp;omega
     obtain rfl:b=false:=bool_false HOK.out (fun q=>by have:=q.2.2.2 k h;have:=HC.out;omega)
     clear g1 g2
     go_wp2
     go_ret2
     exact⟨_,rfl,mag_nil _,Below.refl _ _⟩
   ·have d1:decide (((c:Nat):Int)<48)=true:=by simp;omega
    obtain rfl:b=false:=bool_false HOK.out (fun q=>by have:=q.2.2.2 k h;have:=HC.out;omega)
    clear g1
    go_wp2
    go_ret2
    exact⟨_,rfl,mag_nil _,Below.refl _ _⟩
  ·obtain rfl:s.size=k:=by omega
   have e1:decide ((s.size:Int)<(s.size:Int))=false:=by simp
   rcases Nat.eq_zero_or_pos s.size with hz | hp
   ·have hemp:s.toList.isEmpty=true:=by rw [empty_iff];exact hz
    obtain rfl:b=false:=bool_false HOK.out (fun q=>by have:=q.1;omega)
    go_wp2
    go_ret2
    exact⟨_,rfl,mag_nil _,Below.refl _ _⟩
   ·have hemp:s.toList.isEmpty=false:=by
     cases e:s.toList.isEmpty
     ·rfl
     ·have:=empty_iff.1 e;omega
    have q0:(0:Int)<(s.size:Int):=by omega
    have x0:=HB.out 0 hp
    obtain⟨c,hc⟩:∃ c,c=f 0:=⟨_,rfl⟩
    rw [←hc] at x0
    have HC:=Lib.hid hc
    clear hc
    by_cases g:c=48
    ·subst g
     by_cases g2:1<s.size
     ·have d1:decide ((1:Int)<(s.size:Int))=true:=by simp;omega
      obtain rfl:b=false:=bool_false HOK.out (fun q=>q.2.2.1 ⟨HC.out.symm,g2⟩)
      go_wp2
      go_ret2
      exact⟨_,rfl,mag_nil _,Below.refl _ _⟩
     ·have d1:decide ((1:Int)<(s.size:Int))=false:=by simp;omega
      have d4:decide ((4000:Int)<(s.size:Int))=false:=by simp;omega
      obtain rfl:b=true:=HOK.out.2 ⟨by omega,by omega,fun q=>g2 q.2,HG.out⟩
      have g4:s.size≤4000:=by omega
      clear HOK
      have SS0:Hid (Bts s (s.size - 0) (fun i=>f (0+i))):=Lib.hid ⟨by omega,fun i h=>by have:=HB.out i h;simpa using this⟩
      have MG0:Hid (Mag w (.slice none 0 0) (valT (fun i=>dv (f i)) 0)):=Lib.hid (mag_nil _)
      have KW0:=Lib.hid (Below.refl w.heap.size w)
      go_wp2
      clear x0 hemp q0
      go_loopw [0,5] (fun v0 v5 wr=>∃ (k:Nat) (s':ByteArray),k≤s.size∧v0 = .string s'∧Hid (Bts s' (s.size - k) (fun i=>f (k+i)))∧Hid (Mag wr v5 (valT (fun i=>dv (f i)) k))∧Hid (Below w.heap.size w wr)) (fun v0 _ _=>match v0 with | .string t=>t.size | _=>0)
      case atStart=>exact⟨0,s,by omega,rfl,SS0,MG0,KW0⟩
      case round=>
       clear SS0 MG0 KW0
       obtain⟨k,s',hk,rfl,SS,MG,KW⟩:=hrel
       have hsz:=SS.out.1
       by_cases h2:k<s.size
       ·have hemp:=not_empty (s:=s') (by omega)
        obtain⟨N,hN⟩:∃ N,N=(s'.size - 1) % 9+1:=⟨_,rfl⟩
        have HNN:=Lib.hid hN
        have hNI:((s'.size:Int) - 1) % 9+1=(N:Int):=by omega
        have hN1:1≤N:=by omega
        have hN9:N≤9:=by omega
        have hNs:N≤s'.size:=by omega
        have hs4:s'.size≤4000:=by omega
        have hs0:1≤s'.size:=by omega
        clear hN
        go_wp2
        go_loop [7,8,51] (fun v7 v8 v51=>∃ i V P:Nat,i≤N∧v51 = .int .i64 (i:Nat)∧v7 = .int .u32 ((V:Nat):Int)∧v8 = .int .u32 ((P:Nat):Int)∧Hid (P=10 ^ i)∧Hid (V=valT (fun j=>dv (f (k+j))) i)) (fun _ _ v51=>N - (intOf v51).toNat)
        case atStart=>exact⟨0,0,1,by omega,rfl,rfl,rfl,Lib.hid rfl,Lib.hid rfl⟩
        case round=>
         obtain⟨i,V,P,hi,rfl,rfl,rfl,HP,HV⟩:=hrel
         have hVP:V<P:=by rw [HP.out,HV.out];exact valT_lt (fun j=>dv_lt _) i
         by_cases h3:i<N
         ·have e3:decide ((i:Int)<(N:Int))=true:=by simpa using h3
          have e3n:decide (i<N)=true:=by simpa using h3
          have hi8:i≤8:=by omega
          have hP8:P≤100000000:=by rw [HP.out];exact Nat.le_trans (Nat.pow_le_pow_right (by omega) hi8) (by decide)
          have his:i<s'.size:=by omega
          have q2:(0:Int)≤((i:Nat):Int):=by omega
          have q3:((i:Nat):Int)<(s'.size:Int):=by omega
          have xi:=SS.out.2 i his
          have hg:=HG.out (k+i) (by omega)
          obtain⟨c,hc⟩:∃ c,c=f (k+i):=⟨_,rfl⟩
          rw [←hc] at hg
          simp only [←hc] at xi
          have e4:=u8_dv c hg.1 hg.2
          obtain⟨c',hc'⟩:∃ c',c'=dv c:=⟨_,rfl⟩
          have hc9:c'<10:=by rw [hc'];exact dv_lt _
          rw [←hc'] at e4
          have HV2:Hid (10*V+c'=valT (fun j=>dv (f (k+j))) (i+1)):=Lib.hid (by
           rw [HV.out,hc',hc];rfl)
          have HP2:Hid (10*P=10 ^ (i+1)):=Lib.hid (by rw [HP.out,Nat.pow_succ];omega)
          clear hc hc' hg
          go_wp2
          go_round
          case rel=>exact⟨i+1,10*V+c',10*P,by omega,by go_num,by go_num,by go_num,HP2,HV2⟩
          case measure=>simp [intOf];omega
         ·obtain rfl:N=i:=by omega
          have e3:decide ((N:Int)<(N:Int))=false:=by simp
          have hP9:P≤1000000000:=by rw [HP.out];exact Nat.le_trans (Nat.pow_le_pow_right (by omega) hN9) (by decide)
          obtain⟨X,hX⟩:∃ X,X=valT (fun i=>dv (f i)) k:=⟨_,rfl⟩
          have HX:=Lib.hid hX
          have hXn:nl X≤4000:=Nat.le_trans ((nl_le X k).2 (by rw [hX];exact Nat.lt_of_lt_of_le (valT_lt (fun j=>dv_lt _) k) (Nat.pow_le_pow_left (by omega) k))) (by omega)
          rw [←hX] at MG
          have hPn:nl P≤1:=(nl_le P 1).2 (by omega)
          have hVn:nl V≤1:=(nl_le V 1).2 (by omega)
          have hXP:nl (X*P)≤4001:=Nat.le_trans (nl_mul_le X P) (by omega)
          have hT:trimN (fun _=>P) 1=1:=by unfold trimN;rw [if_neg (by omega)]
          have HL:=Lib.hid (limb_new wr P (by omega))
          rw [hT] at HL
          have KB:=Lib.hid (boxes1 wr (.cells #[.int .u32 ((P:Nat):Int)] 145))
          have MG:=Lib.hid (MG.out.mono KB.out (Nat.le_refl _))
          have KW:=Lib.hid (KW.out.trans (KB.out.mono KW.out.size))
          clear hT hX
          go_wp2_with (first
           | (go_at_call 129;(with_reducible refine (times_any _ _ X P _ MG.out HL.out (by omega)).mono ?_);rintro e w6 ⟨r6,rfl,hr6,hb6⟩;have KW:=Lib.hid (KW.out.trans (hb6.mono KW.out.size));have M6:=Lib.hid hr6;have L6:=Lib.hid (limb_new w6 V (by omega));have K6:=Lib.hid (boxes1 w6 (.cells #[.int .u32 ((V:Nat):Int)] 145));clear hr6 hb6)
           | (go_at_call 125;(with_reducible refine (trim_any (some ⟨w6.heap.size,0,none⟩) w6.heap.size 0 1 1 (fun _=>V) _ (by omega) (limb_sl w6 V)).mono ?_);rintro e w7 ⟨rfl,rfl⟩)
           | (go_at_call 126;(with_reducible refine (plus_any _ _ (X*P) V _ (M6.out.mono K6.out (Nat.le_refl _)) L6.out (by omega) (by omega)).mono ?_);rintro e w8 ⟨r8,rfl,hr8,hb8⟩;have KW:=Lib.hid ((KW.out.trans (K6.out.mono KW.out.size)).trans (hb8.mono (by have:=KW.out.size;have:=K6.out.size;omega)));have M8:=Lib.hid hr8;clear hr8 hb8))
          go_roundw
          case rel=>
           refine⟨k+N,s'.extract N s'.size,by omega,by rw [HNN.out,hsz],Lib.hid ?_,Lib.hid ?_,KW⟩
           ·have h:=bts_cut SS.out N (s.size - k) (by omega) (by omega) (g:=fun i=>f (k+N+i)) (fun j hj=>by simp only [Nat.add_assoc])
            rw [hsz]
            rw [show s.size - (k+N)=s.size - k - N by omega]
            exact h
           ·rw [valT_split,←HX.out,←HP.out,←HV.out];exact M8.out
          case measure=>simp;omega
       ·have hs0:s'.size=0:=by omega
        have hemp:s'.toList.isEmpty=true:=empty_iff.2 hs0
        obtain rfl:s.size=k:=by omega
        go_wp2
        go_ret2
        exact⟨_,rfl,MG.out,KW.out⟩
    ·have dc:((c:Int) == 48)=false:=by simp;omega
     by_cases g4:s.size≤4000
     ·have d4:decide ((4000:Int)<(s.size:Int))=false:=by simp;omega
      obtain rfl:b=true:=HOK.out.2 ⟨by omega,g4,fun q=>g (by rw [HC.out];exact q.1),HG.out⟩
      clear HOK
      have SS0:Hid (Bts s (s.size - 0) (fun i=>f (0+i))):=Lib.hid ⟨by omega,fun i h=>by have:=HB.out i h;simpa using this⟩
      have MG0:Hid (Mag w (.slice none 0 0) (valT (fun i=>dv (f i)) 0)):=Lib.hid (mag_nil _)
      have KW0:=Lib.hid (Below.refl w.heap.size w)
      go_wp2
      clear x0 hemp q0
      go_loopw [0,5] (fun v0 v5 wr=>∃ (k:Nat) (s':ByteArray),k≤s.size∧v0 = .string s'∧Hid (Bts s' (s.size - k) (fun i=>f (k+i)))∧Hid (Mag wr v5 (valT (fun i=>dv (f i)) k))∧Hid (Below w.heap.size w wr)) (fun v0 _ _=>match v0 with | .string t=>t.size | _=>0)
      case atStart=>exact⟨0,s,by omega,rfl,SS0,MG0,KW0⟩
      case round=>
       clear SS0 MG0 KW0
       obtain⟨k,s',hk,rfl,SS,MG,KW⟩:=hrel
       have hsz:=SS.out.1
       by_cases h2:k<s.size
       ·have hemp:=not_empty (s:=s') (by omega)
        obtain⟨N,hN⟩:∃ N,N=(s'.size - 1) % 9+1:=⟨_,rfl⟩
        have HNN:=Lib.hid hN
        have hNI:((s'.size:Int) - 1) % 9+1=(N:Int):=by omega
        have hN1:1≤N:=by omega
        have hN9:N≤9:=by omega
        have hNs:N≤s'.size:=by omega
        have hs4:s'.size≤4000:=by omega
        have hs0:1≤s'.size:=by omega
        clear hN
        go_wp2
        go_loop [7,8,51] (fun v7 v8 v51=>∃ i V P:Nat,i≤N∧v51 = .int .i64 (i:Nat)∧v7 = .int .u32 ((V:Nat):Int)∧v8 = .int .u32 ((P:Nat):Int)∧Hid (P=10 ^ i)∧Hid (V=valT (fun j=>dv (f (k+j))) i)) (fun _ _ v51=>N - (intOf v51).toNat)
        case atStart=>exact⟨0,0,1,by omega,rfl,rfl,rfl,Lib.hid rfl,Lib.hid rfl⟩
        case round=>
         obtain⟨i,V,P,hi,rfl,rfl,rfl,HP,HV⟩:=hrel
         have hVP:V<P:=by rw [HP.out,HV.out];exact valT_lt (fun j=>dv_lt _) i
         by_cases h3:i<N
         ·have e3:decide ((i:Int)<(N:Int))=true:=by simpa using h3
          have e3n:decide (i<N)=true:=by simpa using h3
          have hi8:i≤8:=by omega
          have hP8:P≤100000000:=by rw [HP.out];exact Nat.le_trans (Nat.pow_le_pow_right (by omega) hi8) (by decide)
          have his:i<s'.size:=by omega
          have q2:(0:Int)≤((i:Nat):Int):=by omega
          have q3:((i:Nat):Int)<(s'.size:Int):=by omega
          have xi:=SS.out.2 i his
          have hg:=HG.out (k+i) (by omega)
          obtain⟨c,hc⟩:∃ c,c=f (k+i):=⟨_,rfl⟩
          rw [←hc] at hg
          simp only [←hc] at xi
          have e4:=u8_dv c hg.1 hg.2
          obtain⟨c',hc'⟩:∃ c',c'=dv c:=⟨_,rfl⟩
          have hc9:c'<10:=by rw [hc'];exact dv_lt _
          rw [←hc'] at e4
          have HV2:Hid (10*V+c'=valT (fun j=>dv (f (k+j))) (i+1)):=Lib.hid (by
           rw [HV.out,hc',hc];rfl)
          have HP2:Hid (10*P=10 ^ (i+1)):=Lib.hid (by rw [HP.out,Nat.pow_succ];omega)
          clear hc hc' hg
          go_wp2
          go_round
          case rel=>exact⟨i+1,10*V+c',10*P,by omega,by go_num,by go_num,by go_num,HP2,HV2⟩
          case measure=>simp [intOf];omega
         ·obtain rfl:N=i:=by omega
          have e3:decide ((N:Int)<(N:Int))=false:=by simp
          have hP9:P≤1000000000:=by rw [HP.out];exact Nat.le_trans (Nat.pow_le_pow_right (by omega) hN9) (by decide)
          obtain⟨X,hX⟩:∃ X,X=valT (fun i=>dv (f i)) k:=⟨_,rfl⟩
          have HX:=Lib.hid hX
          have hXn:nl X≤4000:=Nat.le_trans ((nl_le X k).2 (by rw [hX];exact Nat.lt_of_lt_of_le (valT_lt (fun j=>dv_lt _) k) (Nat.pow_le_pow_left (by omega) k))) (by omega)
          rw [←hX] at MG
          have hPn:nl P≤1:=(nl_le P 1).2 (by omega)
          have hVn:nl V≤1:=(nl_le V 1).2 (by omega)
          have hXP:nl (X*P)≤4001:=Nat.le_trans (nl_mul_le X P) (by omega)
          have hT:trimN (fun _=>P) 1=1:=by unfold trimN;rw [if_neg (by omega)]
          have HL:=Lib.hid (limb_new wr P (by omega))
          rw [hT] at HL
          have KB:=Lib.hid (boxes1 wr (.cells #[.int .u32 ((P:Nat):Int)] 145))
          have MG:=Lib.hid (MG.out.mono KB.out (Nat.le_refl _))
          have KW:=Lib.hid (KW.out.trans (KB.out.mono KW.out.size))
          clear hT hX
          go_wp2_with (first
           | (go_at_call 129;(with_reducible refine (times_any _ _ X P _ MG.out HL.out (by omega)).mono ?_);rintro e w6 ⟨r6,rfl,hr6,hb6⟩;have KW:=Lib.hid (KW.out.trans (hb6.mono KW.out.size));have M6:=Lib.hid hr6;have L6:=Lib.hid (limb_new w6 V (by omega));have K6:=Lib.hid (boxes1 w6 (.cells #[.int .u32 ((V:Nat):Int)] 145));clear hr6 hb6)
           | (go_at_call 125;(with_reducible refine (trim_any (some ⟨w6.heap.size,0,none⟩) w6.heap.size 0 1 1 (fun _=>V) _ (by omega) (limb_sl w6 V)).mono ?_);rintro e w7 ⟨rfl,rfl⟩)
           | (go_at_call 126;(with_reducible refine (plus_any _ _ (X*P) V _ (M6.out.mono K6.out (Nat.le_refl _)) L6.out (by omega) (by omega)).mono ?_);rintro e w8 ⟨r8,rfl,hr8,hb8⟩;have KW:=Lib.hid ((KW.out.trans (K6.out.mono KW.out.size)).trans (hb8.mono (by have:=KW.out.size;have:=K6.out.size;omega)));have M8:=Lib.hid hr8;clear hr8 hb8))
          go_roundw
          case rel=>
           refine⟨k+N,s'.extract N s'.size,by omega,by rw [HNN.out,hsz],Lib.hid ?_,Lib.hid ?_,KW⟩
           ·have h:=bts_cut SS.out N (s.size - k) (by omega) (by omega) (g:=fun i=>f (k+N+i)) (fun j hj=>by simp only [Nat.add_assoc])
            rw [hsz]
            rw [show s.size - (k+N)=s.size - k - N by omega]
            exact h
           ·rw [valT_split,←HX.out,←HP.out,←HV.out];exact M8.out
          case measure=>simp;omega
       ·have hs0:s'.size=0:=by omega
        have hemp:s'.toList.isEmpty=true:=empty_iff.2 hs0
        obtain rfl:s.size=k:=by omega
        go_wp2
        go_ret2
        exact⟨_,rfl,MG.out,KW.out⟩
     ·have d4:decide ((4000:Int)<(s.size:Int))=true:=by simp;omega
      obtain rfl:b=false:=bool_false HOK.out (fun q=>by have:=q.2.1;omega)
      go_wp2
      go_ret2
      exact⟨_,rfl,mag_nil _,Below.refl _ _⟩
end Go.Proofs.YtgmopcncbpdniaaGreat
namespace Go.Proofs
open Go.Shelf
def Tryz.lays219_ren:Go.Shelf.Ren:=⟨fun | 219=>144 | 217=>152 | 225=>153 | 224=>154 | 267=>155 | 266=>159 | 314=>160 | n=>n,fun | 9=>9 | 3=>3 | 4=>4 | 5=>5 | 46=>170 | 146=>183 | 51=>145 | n=>n,fun | 1=>0 | n=>n⟩
theorem Tryz.lays219:Go.Proofs.Lays.n219 Tryz.prog Tryz.lays219_ren:={
 mixed:=by kernel_rfl
 f217:=Tryz.func152.trans (congrArg some (by kernel_rfl))
 f219:=Tryz.func144.trans (congrArg some (by kernel_rfl))
 f224:=Tryz.func154.trans (congrArg some (by kernel_rfl))
 f225:=Tryz.func153.trans (congrArg some (by kernel_rfl))
 f266:=Tryz.func159.trans (congrArg some (by kernel_rfl))
 f267:=Tryz.func155.trans (congrArg some (by kernel_rfl))
 f314:=Tryz.func160.trans (congrArg some (by kernel_rfl))
 t3:=Tryz.underlying3
 a3:=Tryz.isAgg3
 z3:=Tryz.sizeOf3
 v3:=Tryz.zeroValue3
 t4:=Tryz.underlying4
 a4:=Tryz.isAgg4
 z4:=Tryz.sizeOf4
 v4:=Tryz.zeroValue4
 t5:=Tryz.underlying5
 a5:=Tryz.isAgg5
 z5:=Tryz.sizeOf5
 v5:=Tryz.zeroValue5
 t9:=Tryz.underlying9
 a9:=Tryz.isAgg9
 z9:=Tryz.sizeOf9
 v9:=Tryz.zeroValue9
 t46:=Tryz.underlying170
 a46:=Tryz.isAgg170
 z46:=Tryz.sizeOf170
 v46:=Tryz.zeroValue170
 t51:=Tryz.underlying145
 a51:=Tryz.isAgg145
 z51:=Tryz.sizeOf145
 v51:=Tryz.zeroValue145
 t146:=Tryz.underlying183
 a146:=Tryz.isAgg183
 z146:=Tryz.sizeOf183
 v146:=Tryz.zeroValue183
 g1:=by kernel_rfl }
open Go.RowKit Go.Lib in
theorem Tryz.stringslite_Index_one (s:ByteArray) (c:UInt8) (w:World) :
  Calls Tryz.prog 144 #[.string s,.string ⟨#[c]⟩] w fun e w'=>e = .returned (.int .i64 (Lib.indexByte s.data.toList c))∧w'=w:=Any.stringslite_Index_one Tryz.lays219 s c w
end Go.Proofs
