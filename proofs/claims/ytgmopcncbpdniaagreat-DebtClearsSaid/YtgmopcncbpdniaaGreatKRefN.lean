import Derived.Test.YtgmopcncbpdniaaGreatKShelf
import Derived.Test.YtgmopcncbpdniaaGreatKPars2
import Derived.Test.YtgmopcncbpdniaaGreatKNumR
import Derived.Test.YtgmopcncbpdniaaGreatKLin2
import Derived.Deep.RegionLawGrows
import Derived.Deep.DeepCutAuto
import Derived.Deep.CutBlock
import Derived.Laws.Cover3
import Derived.Test.YtgmopcncbpdniaaGreatKGen
import Derived.Test.YtgmopcncbpdniaaGreatKCopy
import Derived.Test.YtgmopcncbpdniaaGreatKPlainT
set_option maxHeartbeats 2000000
set_option linter.unusedVariables false
set_option linter.unusedSimpArgs false
namespace Go.Proofs.YtgmopcncbpdniaaGreat
open Go.RowKit
attribute [local go_sem ↓] Go.wp_at_zero Go.wp_at_succ
theorem slD_first (f:Nat->Nat) (L p:Nat) (hp:p<L) (h1:f p=47) (h2:∀ k,k<p->f k≠47):∀ j,j<=L->L - j<=p->slD f L j=p
 | 0,_,h=>by omega
 | j+1,hj,h=>by
  simp only [slD];split
  ·rename_i h3
   rcases Nat.lt_or_ge (L - (j+1)) p with h4 | h4
   ·exact absurd h3 (h2 _ h4)
   ·omega
  ·rename_i h3
   exact slD_first f L p hp h1 h2 j (by omega) (by
    rcases Nat.lt_or_ge p (L - j) with h4 | h4
    ·exfalso;apply h3;rw [show L - (j+1)=p by omega];exact h1
    ·exact h4)
theorem slD_none (f:Nat->Nat) (L:Nat) (h2:∀ k,k<L->f k≠47):∀ j,j<=L->slD f L j=L
 | 0,_=>rfl
 | j+1,hj=>by
  simp only [slD];rw [if_neg (h2 _ (by omega))];exact slD_none f L h2 j (by omega)
theorem bts_append {a b:ByteArray} {La Lb:Nat} {fa fb:Nat->Nat} (ha:Bts a La fa) (hb:Bts b Lb fb):Bts (a ++ b) (La+Lb) (fun i=>if i<La then fa i else fb (i - La)):=by
 refine⟨by rw [ByteArray.size_append,ha.1,hb.1],fun i h=>?_⟩;dsimp only;rcases Nat.lt_or_ge i a.size with h1 | h1
 ·rw [ByteArray.getElem_append_left h1,if_pos (by rw [<-ha.1];exact h1)];exact ha.2 i h1
 ·have h2:i - a.size<b.size:=by rw [ByteArray.size_append] at h;omega
  rw [ByteArray.getElem_append_right h1,if_neg (by rw [<-ha.1];omega),hb.2 _ h2,ha.1]
theorem bts_one (c:UInt8):Bts ⟨#[c]⟩ 1 (fun _=>c.toNat):=⟨rfl,fun i h=>by
 have h1:i=0:=by have:i<1:=h;omega
 subst h1;rfl⟩
theorem bts_cut {s:ByteArray} {L:Nat} {f g:Nat->Nat} (hs:Bts s L f) (i j:Nat) (hij:i<=j) (hj:j<=L) (hg:∀ k,k<j - i->f (i+k)=g k):Bts (s.extract i j) (j - i) g:=by
 have hz:(s.extract i j).size=j - i:=by rw [ByteArray.size_extract,hs.1,Nat.min_eq_left hj]
 refine⟨hz,fun k h=>?_⟩;rw [ByteArray.getElem_extract,hs.2 (i+k) (by rw [hs.1];omega)];exact hg k (by omega)
theorem Bts.congr {s:ByteArray} {L:Nat} {f g:Nat->Nat} (hs:Bts s L f) (hg:∀ k,k<L->f k=g k):Bts s L g:=⟨hs.1,fun i h=>by rw [hs.2 i h];exact hg i (by rw [<-hs.1];exact h)⟩
theorem parse_txt (s : ByteArray) (p : Int) (d : Nat) (w : World) (hs : FracTxt s p d) (hp : MaxD p.natAbs) (hD : MaxD d) (hd : 0 < d) (hg : Nat.gcd p.natAbs d = 1) :
  Calls Tryz.prog 68 #[.string s] w fun e w'=>∃ r,e = .returned (.tuple #[r,.bool true])/\QIs w' r p ((d:Nat):Int) 1000/\Below w.heap.size w w':=by
 obtain⟨t,⟨Lt,hLt,hts,htb⟩,hcase⟩:=hs;have bt:Bts t Lt (fun i=>48+d10 p.natAbs (Lt - 1 - i)):=⟨hts,htb⟩;have okt:=okD_txt hLt hp.lt;have nut:=numD_txt hLt;have h4t:Lt<=4000:=okt.2.1;have hpos:=hLt.pos;rcases hcase with ⟨d1,hs⟩ | ⟨d1,u,⟨Lu,hLu,hus,hub⟩,hs⟩
 ·subst d1;rcases (by omega:p<0\/0<=p) with hneg | hge
  ·rw [if_pos hneg] at hs;have b0:Bts s (1+Lt) _:=hs ▸ bts_append (bts_one 45) bt
   have b1:=bts_cut b0 1 (1+Lt) (by omega) jl (g:=fun i=>48+d10 p.natAbs (Lt - 1 - i)) (fun k hk=>by
    rw [if_neg (by omega),show 1+k - 1=k by omega])
   rw [show 1+Lt - 1=Lt by omega] at b1;have hsz:s.size=1+Lt:=b0.1;rw [<-hsz] at b1;have e1:(s.extract 1 s.size).size=Lt:=b1.1;have hsl:=slD_none (fun i=>48+d10 p.natAbs (Lt - 1 - i)) Lt (fun k _=>(txt_no _ _ _).1) Lt jl;have b2:=bts_cut b1 0 Lt (Nat.zero_le _) jl (g:=fun i=>48+d10 p.natAbs (Lt - 1 - i)) (fun k hk=>by rw [Nat.zero_add]);refine (parse_mn s (s.extract 1 s.size) ((s.extract 1 s.size).extract 0 Lt) (fun i=>48+d10 p.natAbs (Lt - 1 - i)) (fun i=>48+d10 p.natAbs (Lt - 1 - i)) Lt p.natAbs w (by omega) (by omega) ?_ rfl (by rw [e1];exact b1) (by rw [e1];exact hsl) rfl b2 okt nut (by omega) (by omega)).mono ?_
   ·rw [b0.2 0 (by omega)];rfl
   ·rintro e w' ⟨r,rfl,hr,hb⟩;refine⟨r,rfl,?_,hb⟩;rw [show p = -((p.natAbs:Nat):Int) by omega];simpa using hr
  ·rw [if_neg (by omega)] at hs;subst hs;have hsl:=slD_none (fun i=>48+d10 p.natAbs (Lt - 1 - i)) Lt (fun k _=>(txt_no _ _ _).1) Lt jl;have b2:=bts_cut bt 0 Lt (Nat.zero_le _) jl (g:=fun i=>48+d10 p.natAbs (Lt - 1 - i)) (fun k hk=>by rw [Nat.zero_add]);refine (parse_pn s (s.extract 0 Lt) (fun i=>48+d10 p.natAbs (Lt - 1 - i)) (fun i=>48+d10 p.natAbs (Lt - 1 - i)) Lt p.natAbs w (by omega) (fun h0=>?_) (by rw [hts];exact bt) (by rw [hts];exact hsl) rfl b2 okt nut (by omega)).mono ?_
   ·rw [bt.2 0 h0];exact (txt_no _ _ _).2
   ·rintro e w' ⟨r,rfl,hr,hb⟩;refine⟨r,rfl,?_,hb⟩;rw [show p=((p.natAbs:Nat):Int) by omega];simpa using hr
 ·have bu:Bts u Lu (fun i=>48+d10 d (Lu - 1 - i)):=⟨hus,hub⟩;have oku:=okD_txt hLu hD.lt;have nuu:=numD_txt hLu;have h4u:Lu<=4000:=oku.2.1;have btu:=bts_append bt (bts_append (bts_one 47) bu);rcases (by omega:p<0\/0<=p) with hneg | hge
  ·rw [if_pos hneg,ByteArray.append_assoc] at hs;have b0:Bts s (1+(Lt+(1+Lu))) _:=hs ▸ bts_append (bts_one 45) btu;have hsz:s.size=1+(Lt+(1+Lu)):=b0.1
   have b1:=bts_cut b0 1 (1+(Lt+(1+Lu))) (by omega) jl (g:=fun i=>if i<Lt then 48+d10 p.natAbs (Lt - 1 - i) else if i - Lt<1 then 47 else 48+d10 d (Lu - 1 - (i - Lt - 1))) (fun k hk=>by
    rw [if_neg (by omega),show 1+k - 1=k by omega];rfl)
   rw [show 1+(Lt+(1+Lu)) - 1=Lt+(1+Lu) by omega,<-hsz] at b1;have e1:(s.extract 1 s.size).size=Lt+(1+Lu):=b1.1;have hsl:=slD_first (fun i=>if i<Lt then 48+d10 p.natAbs (Lt - 1 - i) else if i - Lt<1 then 47 else 48+d10 d (Lu - 1 - (i - Lt - 1))) (Lt+(1+Lu)) Lt (by omega) (by rw [if_neg (by omega),if_pos (by omega)]) (fun k hk=>by rw [if_pos hk];exact (txt_no _ _ _).1) (Lt+(1+Lu)) jl (by omega);have b2:=bts_cut b1 0 Lt (Nat.zero_le _) (by omega) (g:=fun i=>48+d10 p.natAbs (Lt - 1 - i)) (fun k hk=>by rw [Nat.zero_add,if_pos (by omega)]);have b3:=bts_cut b1 (Lt+1) (Lt+(1+Lu)) (by omega) jl (g:=fun i=>48+d10 d (Lu - 1 - i)) (fun k hk=>by rw [if_neg (by omega),if_neg (by omega),show Lt+1+k - Lt - 1=k by omega]);rw [show Lt+(1+Lu) - (Lt+1)=Lu by omega] at b3;refine (parse_ms s (s.extract 1 s.size) ((s.extract 1 s.size).extract 0 Lt) ((s.extract 1 s.size).extract (Lt+1) (Lt+(1+Lu))) _ (fun i=>48+d10 p.natAbs (Lt - 1 - i)) (fun i=>48+d10 d (Lu - 1 - i)) Lt p.natAbs Lu d w (by omega) (by omega) ?_ rfl (by rw [e1];exact b1) (by rw [e1];exact hsl) rfl b2 okt nut (by omega) (by rw [e1]) b3 oku nuu (by omega) hg (by omega)).mono ?_
   ·rw [b0.2 0 (by omega)];rfl
   ·rintro e w' ⟨r,rfl,hr,hb⟩;refine⟨r,rfl,?_,hb⟩;rw [show p = -((p.natAbs:Nat):Int) by omega];simpa using hr
  ·rw [if_neg (by omega)] at hs;have b1:Bts s (Lt+(1+Lu)) (fun i=>if i<Lt then 48+d10 p.natAbs (Lt - 1 - i) else if i - Lt<1 then 47 else 48+d10 d (Lu - 1 - (i - Lt - 1))):=hs ▸ btu;have hsz:s.size=Lt+(1+Lu):=b1.1;have hsl:=slD_first (fun i=>if i<Lt then 48+d10 p.natAbs (Lt - 1 - i) else if i - Lt<1 then 47 else 48+d10 d (Lu - 1 - (i - Lt - 1))) (Lt+(1+Lu)) Lt (by omega) (by rw [if_neg (by omega),if_pos (by omega)]) (fun k hk=>by rw [if_pos hk];exact (txt_no _ _ _).1) (Lt+(1+Lu)) jl (by omega);have b2:=bts_cut b1 0 Lt (Nat.zero_le _) (by omega) (g:=fun i=>48+d10 p.natAbs (Lt - 1 - i)) (fun k hk=>by rw [Nat.zero_add,if_pos (by omega)]);have b3:=bts_cut b1 (Lt+1) (Lt+(1+Lu)) (by omega) jl (g:=fun i=>48+d10 d (Lu - 1 - i)) (fun k hk=>by rw [if_neg (by omega),if_neg (by omega),show Lt+1+k - Lt - 1=k by omega]);rw [show Lt+(1+Lu) - (Lt+1)=Lu by omega] at b3;refine (parse_ps s (s.extract 0 Lt) (s.extract (Lt+1) (Lt+(1+Lu))) _ (fun i=>48+d10 p.natAbs (Lt - 1 - i)) (fun i=>48+d10 d (Lu - 1 - i)) Lt p.natAbs Lu d w (by omega) (fun h0=>?_) (by rw [hsz];exact b1) (by rw [hsz];exact hsl) rfl b2 okt nut (by omega) (by rw [hsz]) b3 oku nuu (by omega) hg).mono ?_
   ·rw [b1.2 0 h0];dsimp only;rw [if_pos (by omega)];exact (txt_no _ _ _).2
   ·rintro e w' ⟨r,rfl,hr,hb⟩;refine⟨r,rfl,?_,hb⟩;rw [show p=((p.natAbs:Nat):Int) by omega];simpa using hr
structure SB (w0 wp W:World) (P F g r:Nat) (pq:Nat->Rat) (α:Rat) (K:Nat):Prop where
 base:Below w0.heap.size w0 W
 via:Below wp.heap.size wp W
 pays:RatRow wp P 2 pq 4
 fcell:wp.cell? ⟨F,0,none⟩=some (.int .i64 0)
 fl:F<wp.heap.size
 mat:W.cell? ⟨g,0,none⟩=some (.slice (some ⟨r,0,none⟩) 1 1)
 mf:∀ o,W.frozen? ⟨g,o,none⟩=false
 ml:g<W.heap.size
 row:RatRow W r 1 (fun _=>α) K
 o1:w0.heap.size<=P
 o2:wp.heap.size<=g
 o4:g<r
 o6:w0.heap.size<=wp.heap.size
def cashL (i:Nat):Int:=if i=0 then 1 else 0
def dL (i j:Nat):Int:=if i=0/\j=1 then 4 else if i=1/\j=0 then 2 else 0
theorem dL_range (j i:Nat) (hj:j<2):0<=dL j i/\dL j i<=1000/\0<=sumF (dL j) 2/\sumF (dL j) 2<=100000:=by
 have h1:0<=dL j i/\dL j i<=1000:=by unfold dL;split <;> (try split) <;> omega
 refine⟨h1.1,h1.2,?_⟩
 match j,hj with
 | 0,_=>decide
 | 1,_=>decide
theorem infoB:(Tryz.prog.info? 4).map (fun i=>(i.zero,i.size,i.bytes))=some (some (.bool false),1,1):=by kernel_rfl
theorem eql_nil_some (x:Addr) (l c:Nat) (W:World):(binOp .eql 24 (.slice (some x) l c) (.slice none 0 0)).run Tryz.prog W = .ok (.bool false) W:=
 by
 simp only [binOp];simp [run_equal_slice_nil W 24 3 (some x) l c Tryz.underlying24]
theorem eql_nil_none (W:World):(binOp .eql 24 (.slice none 0 0) (.slice none 0 0)).run Tryz.prog W = .ok (.bool true) W:=
 by
 simp only [binOp];simp [run_equal_slice_nil W 24 3 none 0 0 Tryz.underlying24]
theorem rat_cmp_val (x y : Value) (a b : Rat) (k : Nat) (w : World) (c : Int) (hx : RatIs w x a k) (hy : RatIs w y b k) (hk : 2 * k <= 549755813888) (hc : cmpQ a b = c) :
  Calls Tryz.prog 62 #[x,y] w fun e w'=>e = .returned (.int .i64 c)/\Below w.heap.size w w':=by
 subst hc;exact rat_cmp x y a b k w hx hy hk
theorem own_below {w w':World} {base B e size n:Nat} {v:Value} {xs:List Value} (h:w.ownsRow base e size v n xs) (hb:Below B w w') (hB:w.heap.size<=B:=by exact Nat.le_refl _):w'.ownsRow base e size v n xs:=
 h.kept (row:=none) ⟨hb.os,hb.tape,hb.output,hb.size,fun k hk _=>hb.block k (jm hk hB)⟩ (by
  rcases hh:v.ownBlock with _ | g
  ·exact .inl rfl
  ·exact .inr (by intro e;cases e))
def digS (N:Nat):ByteArray:=⟨#[48+UInt8.ofNat N]⟩
theorem digS_size (N:Nat):(digS N).size=1:=rfl
theorem infoN:(Tryz.prog.info? 63).map (fun i=>(i.zero,i.size,i.bytes))=some (some (.string ByteArray.empty),1,16):=by kernel_rfl
def strL (ss:Nat->ByteArray) (n:Nat):List Value:=(List.range n).map (fun i=>.string (ss i))
theorem strL_get (ss:Nat->ByteArray) (n i:Nat) (h:i<n):(strL ss n)[i]? = some (.string (ss i)):=by simp [strL,h]
def setS (ss:Nat->ByteArray) (k:Nat) (s:ByteArray) (i:Nat):ByteArray:=if i=k then s else ss i
theorem strL_succ (ss:Nat->ByteArray) (k:Nat) (s:ByteArray):strL ss k ++ [.string s]=strL (setS ss k s) (k+1):=by
 unfold strL;rw [List.range_succ,List.map_append];congr 1
 ·apply List.map_congr_left;intro i hi;have:i<k:=List.mem_range.1 hi;simp [setS,show i≠k by omega]
 ·simp [setS]
structure TxtsOf (n:Nat) (q:Nat->Rat) (ss:Nat->ByteArray):Prop where
 txt:∀ j,j<n->FracTxt (ss j) (q j).num (q j).den
theorem TxtsOf.push {k:Nat} {q:Nat->Rat} {ss:Nat->ByteArray} {st:ByteArray} (h:TxtsOf k q ss) (hs:FracTxt st (q k).num (q k).den):TxtsOf (k+1) q (setS ss k st):=⟨fun j hj=>by
 unfold setS;by_cases ej:j=k
 ·rw [if_pos ej,ej];exact hs
 ·rw [if_neg ej];exact h.txt j (by omega)⟩
set_option maxRecDepth 100000 in
theorem nums_any (pb n pc : Nat) (q : Nat -> Rat) (K : Nat) (w : World) (hp : IsRats w pb 0 n q K) (hK : K <= 1000000000) (hn : n <= 1000) (hN : ∀ j, j < n -> MaxD (q j).num.natAbs /\ MaxD (q j).den) :
  Calls Tryz.prog 40 #[.slice (some ⟨pb,0,none⟩) n pc] w fun e w'=>∃ va vk ss,e = .returned (.tuple #[.slice va n vk,.int .i64 0])/\TxtsOf n q ss/\w'.ownsRow w.heap.size 63 1 (.slice va n vk) n (strL ss n)/\Below w.heap.size w w':=by
 have HP:=jj hp;have HN:=jj hN;obtain⟨i0,hi,hz0,hz1,hz2⟩:=info_parts infoN;have KW0:=jj (jr w);clear hp hN;go_enter Tryz.func40,Tryz.ntmps40;go_wp2;go_loopw [4,11] (fun v4 v11 wr=>∃ k:Nat,k<=n/\v11 = .int .i64 (k:Nat)/\∃ va vk ss,v4 = .slice va k vk/\Hid (TxtsOf k q ss)/\Hid (wr.ownsRow w.heap.size 63 1 (.slice va k vk) k (strL ss k))/\Hid (Below w.heap.size w wr)) (fun _ v11 _=>n - (intOf v11).toNat)
 case atStart=>exact⟨0,by omega,rfl,none,0,fun _=>ByteArray.empty,rfl,jj ⟨fun j hj=>by omega⟩,jj (World.ownsRow_nil _ _ _ _),KW0⟩
 case round=>
  clear KW0;obtain⟨k,hk,rfl,va,vk,ss,rfl,TX,OW,KW⟩:=hrel;by_cases h:k<n
  ·obtain⟨s,a,m,c,a2,m2,c2,PP,KP⟩:=(HP.out.mono KW.out jl) k h;rw [Nat.zero_add] at PP;obtain⟨x0,x1,x2,x3,xl⟩:=PP;have ixr:=fun W=>rowIx pb n pc k h W
   have HX:=jj (KP.mono (boxes1 wr (.cells #[.bool s,.slice a m c,.bool false,.slice a2 m2 c2] 92)) jl);have KW1:=jj (KW.out.alloc KW.out.size (.cells #[.bool s,.slice a m c,.bool false,.slice a2 m2 c2] 92));have OW1:=jj (OW.out.alloc (.cells #[.bool s,.slice a m c,.bool false,.slice a2 m2 c2] 92));have HNk:=jj (HN.out k h);clear KP
   go_wp2_with (first
    | (go_at_call 72;(with_reducible refine (rat_num_any _ (q k) K _ HX.out hK HNk.out.1 HNk.out.2).mono ?_);rintro e w2 ⟨st,rfl,hst,hb2⟩;have TX2:Hid (TxtsOf (k+1) q (setS ss k st)):=jj (TX.out.push hst);have KW2:=jj (jb KW1.out hb2);have OW2:=jj (own_below OW1.out hb2);have HB2:=jj (Nat.le_trans KW1.out.size hb2.size);clear hb2 hst)
    | (at_builtin;refine wpList_append_own _ rfl (.tmp 23) (.tmp 25) 28 rfl w.heap.size 63 i0 (.string ByteArray.empty) 1 16 Tryz.underlying28 hi hz0 hz1 hz2 rfl (by decide) (.slice va k vk) k (strL ss k) rfl (OW2.out.alloc _) ⟨w2.heap.size,0,none⟩ 1 1 [.string st] rfl rfl (new1 _ _ _) (one1 _ rfl) (by unfold maxLen;omega) (by omega) (by have:=HB2.out;simp;omega) ?_;intro v' w3 hown hgrow _;have hbk:=(OW2.out.alloc (.cells #[.string st] 63)).lt;have KW3:=jj ((KW2.out.alloc KW2.out.size _).grown hgrow (by have:=HB2.out;simp;omega) (fun kk e=>(hbk kk e).1));rw [strL_succ] at hown;obtain⟨va',vk',rfl⟩:=own_shape hown;have OW3:=jj hown;clear hown hgrow hbk))
   go_roundw
   case rel=>exact⟨k+1,by omega,by go_num,va',vk',_,rfl,TX2,OW3,KW3⟩
   case measure=>simp [intOf];omega
  ·obtain rfl:k=n:=by omega
   go_wp2;go_ret2;exact⟨va,vk,ss,rfl,TX.out,OW.out,KW.out⟩
structure TxtQ (s:ByteArray) (q:Rat):Prop where
 txt:FracTxt s q.num q.den
 mn:MaxD q.num.natAbs
 md:MaxD q.den
theorem parse_q (s : ByteArray) (q : Rat) (w : World) (h : TxtQ s q) :
  Calls Tryz.prog 68 #[.string s] w fun e w'=>∃ s1 a n c t b l k,e = .returned (.tuple #[.agg #[.bool s1,.slice a n c,.bool t,.slice b l k],.bool true])/\Hid (QIs w' (.agg #[.bool s1,.slice a n c,.bool t,.slice b l k]) q.num ((q.den:Nat):Int) 1000)/\Hid (Below w.heap.size w w'):=by
 refine (parse_txt s q.num q.den w h.txt h.mn h.md q.den_pos q.reduced).mono ?_;rintro e w' ⟨r,rfl,hr,hb⟩;obtain⟨s1,a,n,c,t,b,l,k,rfl,-,-,-⟩:=hr.shape;exact⟨s1,a,n,c,t,b,l,k,rfl,jj hr,jj hb⟩
theorem valid_any (s : ByteArray) (q : Rat) (w : World) (h : TxtQ s q) :
  Calls Tryz.prog 36 #[.string s] w fun e w'=>e = .returned (.bool true)/\Below w.heap.size w w':=by
 have H:=jj h;clear h;go_enter Tryz.func36,Tryz.ntmps36;go_wp2_with (go_at_call 68;(with_reducible refine (parse_q s q _ H.out).mono ?_);rintro e w1 ⟨s1,a,n,c,t,b,l,k,rfl,HQ,KW⟩);go_ret;exact⟨rfl,KW.out.alloc KW.out.size _⟩
theorem QIs.store4 {w : World} {v : Value} {p d : Int} {m b : Nat} (h : QIs w v p d m) (O : Own4 w b (.bool false) (.slice none 0 0) (.bool false) (.slice none 0 0)) (u0 u1 u2 u3 : Value) :
  QIs ((((w.setCell ⟨b,0,none⟩ u0).setCell ⟨b,1,none⟩ u1).setCell ⟨b,2,none⟩ u2).setCell ⟨b,3,none⟩ u3) v p d m:=by
 obtain⟨s1,u1,s2,u2,rfl,h1,h2,h3⟩:=h;exact⟨s1,u1,s2,u2,rfl,h1.store4 O _ _ _ _,h2.store4 O _ _ _ _,h3⟩
theorem QIs.alloc {w:World} {v:Value} {p d:Int} {m:Nat} (h:QIs w v p d m) (o:Obj):QIs (w.alloc o) v p d m:=h.mono ((jr w).alloc jl o) jl
theorem of_any (s : ByteArray) (q : Rat) (w : World) (h : TxtQ s q) :
  Calls Tryz.prog 64 #[.string s] w fun e w'=>∃ s1 a n c t b l k,e = .returned (.agg #[.bool s1,.slice a n c,.bool t,.slice b l k])/\Hid (QIs w' (.agg #[.bool s1,.slice a n c,.bool t,.slice b l k]) q.num ((q.den:Nat):Int) 1000)/\Hid (Below w.heap.size w w'):=by
 have H:=jj h;clear h;have O4:=jj (own4_new w w.heap.size rfl (.bool false) (.slice none 0 0) (.bool false) (.slice none 0 0) 40);have KW:=jj ((jr w).alloc jl (.cells #[.bool false,.slice none 0 0,.bool false,.slice none 0 0] 40));go_enter Tryz.func64,Tryz.ntmps64;go_wp2_with (go_at_call 68;(with_reducible refine (parse_q s q _ H.out).mono ?_);rintro e w1 ⟨s1,a,n,c,t,b,l,k,rfl,HQ,hb⟩;have O4:=jj (O4.out.below hb.out O4.out.lt);have KW:=jj (jb KW.out hb.out);have n1:w.heap.size<w1.heap.size:=(by have:=hb.out.size;simp at this;omega);obtain⟨x0,x1,x2,x3,xf,xl⟩:=O4.out);refine bodyPost_ret (v:=.agg #[.bool s1,.slice a n c,.bool t,.slice b l k]) (by simp [results,Tryz.results64,go_sem,x0,x1,x2,x3,xf,xl,n1]) rfl ?_;exact⟨_,_,_,_,_,_,_,_,rfl,jj ((HQ.out.store4 O4.out _ _ _ _).alloc _),jj ((below_set4q KW.out jl _ _ _ _).alloc (below_set4q KW.out jl _ _ _ _).size _)⟩
def Strs (w:World) (v:Value) (n:Nat) (ss:Nat->ByteArray):Prop:=Sl w v n (fun j=>.string (ss j))
theorem num_s:Tryz.prog.underlying 28=some (.slice (Tryz.prog.elem 28)):=by kernel_rfl
theorem num_z (W:World):(sizeOf (Tryz.prog.elem 28)).run Tryz.prog W = .ok 1 W:=by kernel_rfl
theorem ixN {w:World} {a:Option Addr} {b o c n:Nat} {g:Nat->Value} (h:IsSl w a b o c n g) (i d:Nat) (hi:i<n) (W:World) :
   (Instr.indexAt 28 (.slice a n d) (.int .i64 (i:Int))).run Tryz.prog W = .ok (.pointer (some ⟨b,o+i,none⟩)) W:=
  run_indexAt_opt 28 num_s num_z a b o n d (fun q=>h.at_ q) .i64 i (by omega) (by omega) W
structure TxtQs (n:Nat) (q:Nat->Rat) (ss:Nat->ByteArray):Prop where
 txt:∀ j,j<n->TxtQ (ss j) (q j)
theorem rnums_any (v : Value) (n : Nat) (q : Nat -> Rat) (ss : Nat -> ByteArray) (w : World) (hv : Strs w v n ss) (hn : n <= 1000) (hq : TxtQs n q ss) :
  Calls Tryz.prog 31 #[v] w fun e w'=>e = .returned (.int .i64 0)/\Below w.heap.size w w':=by
 obtain⟨a,b,o,c,rfl,hs⟩:=hv;have HS:=jj hs;have HQ:=jj hq;have KW0:=jj (jr w);clear hs hq;go_enter Tryz.func31,Tryz.ntmps31;go_wp2;go_loopw [3] (fun v3 wr=>∃ k:Nat,k<=n/\v3 = .int .i64 (k:Nat)/\Hid (Below w.heap.size w wr)) (fun v3 _=>n - (intOf v3).toNat)
 case atStart=>exact⟨0,by omega,rfl,KW0⟩
 case round=>
  clear KW0;obtain⟨k,hk,rfl,KW⟩:=hrel;by_cases h:k<n
  ·have x0:=(HS.out.mono KW.out jl).cell k h;have ix:=fun W=>ixN HS.out k c h W
   go_wp2_with (go_at_call 36;(with_reducible refine (valid_any _ (q k) _ (HQ.out.txt k h)).mono ?_);rintro e w2 ⟨rfl,hb2⟩;have KW2:=jj (jb KW.out hb2);clear hb2);go_roundw
   case rel=>exact⟨k+1,by omega,by go_num,KW2⟩
   case measure=>simp [intOf];omega
  ·obtain rfl:k=n:=by omega
   go_wp2;go_ret;exact⟨rfl,KW.out⟩
end Go.Proofs.YtgmopcncbpdniaaGreat
