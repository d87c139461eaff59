import Derived.Test.YtgmopcncbpdniaaGreatINumR
import Derived.Test.YtgmopcncbpdniaaGreatIGrp3
import Derived.Test.YtgmopcncbpdniaaGreatIPlainT
import Derived.Test.YtgmopcncbpdniaaGreatIRep
set_option linter.unusedVariables false
set_option linter.unusedSimpArgs false
namespace Go.Proofs.YtgmopcncbpdniaaGreat
open Go.RowKit
attribute [local go_sem ↓] Go.wp_at_zero Go.wp_at_succ
def strL (ss:Nat→ByteArray) (n:Nat):List Value:=(List.range n).map (fun i=>.string (ss i))
theorem strL_get (ss:Nat→ByteArray) (n i:Nat) (h:i<n):(strL ss n)[i]? = some (.string (ss i)):=by simp [strL,h]
def setS (ss:Nat→ByteArray) (k:Nat) (s:ByteArray) (i:Nat):ByteArray:=if i=k then s else ss i
theorem strL_succ (ss:Nat→ByteArray) (k:Nat) (s:ByteArray):strL ss k ++ [.string s]=strL (setS ss k s) (k+1):=by
 unfold strL
 rw [List.range_succ,List.map_append]
 congr 1
 ·apply List.map_congr_left
  intro i hi
  have:i<k:=List.mem_range.1 hi
  simp [setS,show i≠k by omega]
 ·simp [setS]
structure TxtsOf (n:Nat) (q:Nat→Rat) (ss:Nat→ByteArray):Prop where
 txt:∀ j,j<n→FracTxt (ss j) (q j).num (q j).den
theorem TxtsOf.push {k:Nat} {q:Nat→Rat} {ss:Nat→ByteArray} {st:ByteArray} (h:TxtsOf k q ss) (hs:FracTxt st (q k).num (q k).den):TxtsOf (k+1) q (setS ss k st):=⟨fun j hj=>by
 unfold setS
 by_cases ej:j=k
 ·rw [if_pos ej,ej];exact hs
 ·rw [if_neg ej];exact h.txt j (by omega)⟩
set_option maxHeartbeats 2000000 in
set_option maxRecDepth 100000 in
theorem nums_any (pb n pc:Nat) (q:Nat→Rat) (K:Nat) (w:World) (hp:IsRats w pb 0 n q K) (hK:K≤1000000000) (hn:n≤1000) (hN:∀ j,j<n→MaxD (q j).num.natAbs∧MaxD (q j).den) :
  Calls Tryz.prog 40 #[.slice (some ⟨pb,0,none⟩) n pc] w fun e w'=>∃ va vk ss,e = .returned (.tuple #[.slice va n vk,.int .i64 0])∧TxtsOf n q ss∧w'.ownsRow w.heap.size 63 1 (.slice va n vk) n (strL ss n)∧Below w.heap.size w w':=by
 have HP:=Lib.hid hp
 have HN:=Lib.hid hN
 obtain⟨i0,hi,hz0,hz1,hz2⟩:=info_parts infoN
 have KW0:=Lib.hid (Below.refl w.heap.size w)
 clear hp hN
 go_enter Tryz.func40,Tryz.ntmps40
 go_wp2
 go_loopw [4,11] (fun v4 v11 wr=>∃ k:Nat,k≤n∧v11 = .int .i64 (k:Nat)∧∃ va vk ss,v4 = .slice va k vk∧Hid (TxtsOf k q ss)∧Hid (wr.ownsRow w.heap.size 63 1 (.slice va k vk) k (strL ss k))∧Hid (Below w.heap.size w wr)) (fun _ v11 _=>n - (intOf v11).toNat)
 case atStart=>exact⟨0,by omega,rfl,none,0,fun _=>ByteArray.empty,rfl,Lib.hid ⟨fun j hj=>by omega⟩,Lib.hid (World.ownsRow_nil _ _ _ _),KW0⟩
 case round=>
  clear KW0
  obtain⟨k,hk,rfl,va,vk,ss,rfl,TX,OW,KW⟩:=hrel
  by_cases h:k<n
  ·obtain⟨s,a,m,c,a2,m2,c2,PP,KP⟩:=(HP.out.mono KW.out (Nat.le_refl _)) k h
   rw [Nat.zero_add] at PP
   obtain⟨x0,x1,x2,x3,xl⟩:=PP
   have ixr:=fun W=>rowIx pb n pc k h W
   have HX:=Lib.hid (KP.mono (boxes1 wr (.cells #[.bool s,.slice a m c,.bool false,.slice a2 m2 c2] 92)) (Nat.le_refl _))
   have KW1:=Lib.hid (KW.out.alloc KW.out.size (.cells #[.bool s,.slice a m c,.bool false,.slice a2 m2 c2] 92))
   have OW1:=Lib.hid (OW.out.alloc (.cells #[.bool s,.slice a m c,.bool false,.slice a2 m2 c2] 92))
   have HNk:=Lib.hid (HN.out k h)
   clear KP
   go_wp2_with (first
    | (go_at_call 72;(with_reducible refine (rat_num_any _ (q k) K _ HX.out hK HNk.out.1 HNk.out.2).mono ?_);rintro e w2 ⟨st,rfl,hst,hb2⟩;have TX2:Hid (TxtsOf (k+1) q (setS ss k st)):=Lib.hid (TX.out.push hst);have KW2:=Lib.hid (KW1.out.trans (hb2.mono KW1.out.size));have OW2:=Lib.hid (own_below OW1.out hb2);have HB2:=Lib.hid (Nat.le_trans KW1.out.size hb2.size);clear hb2 hst)
    | (at_builtin;refine wpList_append_own _ rfl (.tmp 23) (.tmp 25) 28 rfl w.heap.size 63 i0 (.string ByteArray.empty) 1 16 Tryz.underlying28 hi hz0 hz1 hz2 rfl (by decide) (.slice va k vk) k (strL ss k) rfl (OW2.out.alloc _) ⟨w2.heap.size,0,none⟩ 1 1 [.string st] rfl rfl (new1 _ _ _) (one1 _ rfl) (by unfold maxLen;omega) (by omega) (by have:=HB2.out;simp;omega) ?_;intro v' w3 hown hgrow _;have hbk:=(OW2.out.alloc (.cells #[.string st] 63)).lt;have KW3:=Lib.hid ((KW2.out.alloc KW2.out.size _).grown hgrow (by have:=HB2.out;simp;omega) (fun kk e=>(hbk kk e).1));rw [strL_succ] at hown;obtain⟨va',vk',rfl⟩:=own_shape hown;have OW3:=Lib.hid hown;clear hown hgrow hbk))
   go_roundw
   case rel=>exact⟨k+1,by omega,by go_num,va',vk',_,rfl,TX2,OW3,KW3⟩
   case measure=>simp [intOf];omega
  ·obtain rfl:k=n:=by omega
   go_wp2
   go_ret2
   exact⟨va,vk,ss,rfl,TX.out,OW.out,KW.out⟩
end Go.Proofs.YtgmopcncbpdniaaGreat
namespace Go.Proofs.YtgmopcncbpdniaaGreat
open Go.RowKit
attribute [local go_sem ↓] Go.wp_at_zero Go.wp_at_succ
theorem dL_debts:Debts 2 (fun _=>2) dL:=⟨by omega,by omega,fun i hi=>⟨rfl,by unfold dL;rw [if_neg (by omega),if_neg (by omega)],fun j _=>⟨(dL_range i j hi).1,(dL_range i j hi).2.1⟩⟩⟩
theorem cashL_range:∀ i,i<2→0≤cashL i∧cashL i≤1000:=fun i _=>by unfold cashL;split <;> omega
def payN (j:Nat):Nat:=if j=0 then 3 else 2
end Go.Proofs.YtgmopcncbpdniaaGreat
namespace Go.Proofs.YtgmopcncbpdniaaGreat
open Go.RowKit
attribute [local go_sem ↓] Go.wp_at_zero Go.wp_at_succ
theorem rng_of {n:Nat} {cash:Nat→Int} {m:Nat→Nat} {d:Nat→Nat→Int} (hD:Debts n m d) (hC:∀ i,i<n→0≤cash i∧cash i≤1000) (hd:∀ i j,0≤d i j):Rng n cash d:=by
 refine⟨fun i j hi hj=>(hD.2.2 i hi).2.2 j hj,fun i hi=>?_,hC⟩
 have h8:n≤8:=hD.2.1
 have h2:∀ k,k≤n→sumF (d i) k≤1000*(k:Int):=by
  intro k
  induction k with
  | zero=>intro _;simp [sumF]
  | succ k ih=>
   intro hk
   have h3:=ih (by omega)
   have h4:=((hD.2.2 i hi).2.2 k (by omega)).2
   simp only [sumF]
   omega
 have h3:=h2 n (Nat.le_refl _)
 exact⟨sumF_nn (hd i) n,by omega⟩
theorem pay_maxD {n:Nat} {cash:Nat→Int} {d:Nat→Nat→Int} {ps:(Nat→Bool)→Nat→Rat} (hR:Rng n cash d) (hn:n≤8) (hd:∀ i j,0≤d i j) (hps:PsOK n cash d ps) (q:Nat):∀ j,j<n→MaxD (PS n cash d ps q j).num.natAbs∧MaxD (PS n cash d ps q j).den:=fun j hj=>by
 obtain⟨x,hx⟩:=ps_rdy hps hR hd q
 have h:=pay_small hR hn hd (rnd_all hps hR hd q).nc hx.sol j hj
 exact⟨⟨Nat.lt_of_le_of_lt h.2.1 bd_ten⟩,⟨Nat.lt_of_le_of_lt h.2.2 bd_ten⟩⟩
structure Last (n:Nat) (cash:Nat→Int) (d:Nat→Nat→Int) (ps:(Nat→Bool)→Nat→Rat) (q:Nat):Prop where
 le:q≤n
 pos:∀ r,r<q→0<rwM n cash d ps r
 zero:rwM n cash d ps q=0
set_option maxHeartbeats 1000000 in
theorem clear_any (vc vd:Value) (n:Nat) (cash:Nat→Int) (m:Nat→Nat) (d:Nat→Nat→Int) (ps:(Nat→Bool)→Nat→Rat) (w:World) (hc:Ints w vc n cash) (hm:Mat w vd n m d) (hD:Debts n m d) (hC:∀ i,i<n→0≤cash i∧cash i≤1000) (hd:∀ i j,0≤d i j) (hps:PsOK n cash d ps) :
  Calls Tryz.prog 11 #[vc,vd] w fun e w'=>∃ q va vk ss,e = .returned (.tuple #[.slice va n vk,.int .i64 0])∧Last n cash d ps q∧TxtsOf n (PS n cash d ps q) ss∧Sl w' (.slice va n vk) n (fun j=>.string (ss j))∧Below w.heap.size w w':=by
 have HC:=Lib.hid hc
 have HD:=Lib.hid hm
 have HR:=Lib.hid (rng_of hD hC hd)
 have h0:0<n:=hD.1
 have h8:n≤8:=hD.2.1
 have HDD:=Lib.hid hd
 have HPS:=Lib.hid hps
 have HDB:=Lib.hid hD
 have HCB:=Lib.hid hC
 obtain⟨ca,cb,co,cc,rfl,hcs⟩:=hc
 obtain⟨da,db,d_o,dc,ra,rb,ro,rc,rfl,hdm⟩:=hm
 clear hcs hdm hD hC hd hps
 go_enter Tryz.func11,Tryz.ntmps11
 go_wp2_with (first
  | (go_at_call 38;(with_reducible refine (read_ok _ _ n cash m d _ HC.out HD.out HDB.out HCB.out).mono ?_);rintro e w1 ⟨b,vt,rfl,hm,hb1⟩;have HM:=Lib.hid hm;have KW:=Lib.hid hb1;clear hm hb1)
  | (go_at_call 39;(with_reducible refine (rounds_any b n cash d _ _ _ ps _ HM.out h0 h8 HR.out HDD.out HPS.out).mono ?_);rintro e w2 ⟨q,oa,ok,ora,orc,P,rfl,hq1,hq2,hq3,-,hp,hb2⟩;have HL:Hid (Last n cash d ps q):=Lib.hid ⟨hq1,hq2,hq3⟩;have HP:=Lib.hid hp.rats;have KW:=Lib.hid (KW.out.trans (hb2.mono KW.out.size));clear hp hb2 hq1 hq2 hq3)
  | (go_at_call 40;(with_reducible refine (nums_any P n n _ 200 _ HP.out (by omega) (by omega) (pay_maxD HR.out h8 HDD.out HPS.out q)).mono ?_);rintro e w3 ⟨va,vk,ss,rfl,htx,hv,hb3⟩;have HTX:=Lib.hid htx;have HV:=Lib.hid hv;have KW:=Lib.hid (KW.out.trans (hb3.mono KW.out.size));clear hv hb3 htx))
 go_ret2
 exact⟨q,va,vk,ss,rfl,HL.out,HTX.out,Sl.of_own HV.out (fun i hi=>strL_get ss n i hi),KW.out⟩
set_option maxHeartbeats 1000000 in
theorem fails_any (vc vd:Value) (n:Nat) (cash:Nat→Int) (m:Nat→Nat) (d:Nat→Nat→Int) (ps:(Nat→Bool)→Nat→Rat) (w:World) (hc:Ints w vc n cash) (hm:Mat w vd n m d) (hD:Debts n m d) (hC:∀ i,i<n→0≤cash i∧cash i≤1000) (hd:∀ i j,0≤d i j) (hps:PsOK n cash d ps) :
  Calls Tryz.prog 15 #[vc,vd] w fun e w'=>∃ q va vk,e = .returned (.tuple #[.slice va q vk,.int .i64 0])∧Last n cash d ps q∧Mat w' (.slice va q vk) q (rwM n cash d ps) (rwF n cash d ps)∧Below w.heap.size w w':=by
 have HC:=Lib.hid hc
 have HD:=Lib.hid hm
 have HR:=Lib.hid (rng_of hD hC hd)
 have h0:0<n:=hD.1
 have h8:n≤8:=hD.2.1
 have HDD:=Lib.hid hd
 have HPS:=Lib.hid hps
 have HDB:=Lib.hid hD
 have HCB:=Lib.hid hC
 obtain⟨ca,cb,co,cc,rfl,hcs⟩:=hc
 obtain⟨da,db,d_o,dc,ra,rb,ro,rc,rfl,hdm⟩:=hm
 clear hcs hdm hD hC hd hps
 go_enter Tryz.func15,Tryz.ntmps15
 go_wp2_with (first
  | (go_at_call 38;(with_reducible refine (read_ok _ _ n cash m d _ HC.out HD.out HDB.out HCB.out).mono ?_);rintro e w1 ⟨b,vt,rfl,hm,hb1⟩;have HM:=Lib.hid hm;have KW:=Lib.hid hb1;clear hm hb1)
  | (go_at_call 39;(with_reducible refine (rounds_any b n cash d _ _ _ ps _ HM.out h0 h8 HR.out HDD.out HPS.out).mono ?_);rintro e w2 ⟨q,oa,ok,ora,orc,P,rfl,hq1,hq2,hq3,hg,-,hb2⟩;have HL:Hid (Last n cash d ps q):=Lib.hid ⟨hq1,hq2,hq3⟩;have HG:=Lib.hid hg.mat;have KW:=Lib.hid (KW.out.trans (hb2.mono KW.out.size));clear hg hb2 hq1 hq2 hq3))
 go_ret2
 exact⟨q,oa,ok,rfl,HL.out,HG.out,KW.out⟩
end Go.Proofs.YtgmopcncbpdniaaGreat
