import Derived.Test.YtgmopcncbpdniaaGreatKShelf
import Derived.Test.YtgmopcncbpdniaaGreatKRat5
import Derived.Handy
import Derived.Laws.BytesString
import Derived.Test.YtgmopcncbpdniaaGreatKPlainD
import Derived.Test.YtgmopcncbpdniaaGreatKInt5
import Derived.Deep.RegionLaw
import Derived.Test.YtgmopcncbpdniaaGreatKShelf
import Derived.Laws.CopyRow
set_option maxHeartbeats 4000000
set_option linter.unusedVariables false
set_option linter.unusedSimpArgs false
namespace Go.Proofs.YtgmopcncbpdniaaGreat
open Go.RowKit
attribute [local go_sem ↓] Go.wp_at_zero Go.wp_at_succ
structure IsMkt (w:World) (b n:Nat) (cash:Nat->Int) (d:Nat->Nat->Int) (vc vd vt:Value):Prop where
 c0:w.cell? ⟨b,0,none⟩=some (.int .i64 (n:Nat))
 c1:w.cell? ⟨b,1,none⟩=some vc
 c2:w.cell? ⟨b,2,none⟩=some vd
 c3:w.cell? ⟨b,3,none⟩=some vt
 hcash:Ints w vc n cash
 hdebt:Mat w vd n (fun _=>n) d
 htot:Ints w vt n (fun i=>sumF (d i) n)
 lt:b<w.heap.size
theorem IsMkt.mono {w w':World} {b n:Nat} {cash:Nat->Int} {d:Nat->Nat->Int} {vc vd vt:Value} {B:Nat} (h:IsMkt w b n cash d vc vd vt) (hb:Below B w w') (hB:w.heap.size<=B):IsMkt w' b n cash d vc vd vt:=
 have k:∀ o,w'.cell? ⟨b,o,none⟩=w.cell? ⟨b,o,none⟩:=fun o=>hb.cell (p:=⟨b,o,none⟩) (jm h.lt hB)
 ⟨(k 0).trans h.c0,(k 1).trans h.c1,(k 2).trans h.c2,(k 3).trans h.c3,h.hcash.mono hb hB,h.hdebt.mono hb hB,h.htot.mono hb hB,jm h.lt hb.size⟩
def shareQ (t x:Int):Rat:=if t=0 then 0 else (x:Rat) / (t:Rat)
theorem bel1 {w w':World} {B:Nat} {b o:Nat} {v:Value} (hb:Below B w w') (h:w.cell? ⟨b,o,none⟩=some v) (hB:b<B):w'.cell? ⟨b,o,none⟩=some v:=(hb.cell (p:=⟨b,o,none⟩) hB).trans h
theorem share_any (b n i j : Nat) (cash : Nat -> Int) (d : Nat -> Nat -> Int) (vc vd vt : Value) (w : World) (hm : IsMkt w b n cash d vc vd vt) (hi : i < n) (hj : j < n)
  (hd0:0<=d i j) (hd1:d i j<=1000) (ht0:0<=sumF (d i) n) (ht1:sumF (d i) n<=100000) :
  Calls Tryz.prog 86 #[.pointer (some ⟨b,0,none⟩),.int .i64 (i:Nat),.int .i64 (j:Nat)] w fun e w'=>∃ r,e = .returned r/\RatIs w' r (shareQ (sumF (d i) n) (d i j)) 4/\Below w.heap.size w w':=by
 obtain⟨c0,c1,c2,c3,hcash,⟨da,db,d_o,dc,ra,rb,ro,rc,rfl,hdm⟩,⟨ta,tb,t_o,tc,rfl,hts⟩,hlt⟩:=hm;have ixt:=fun W=>ixI hts i tc hi W
 have ixd:=fun W=>ixM hdm.top i dc hi W
 have ixe:=fun W=>ixI (hdm.row i hi) j (rc i) hj W
 have hct:=hts.cell i hi;have hcd:=hdm.top.cell i hi;have hce:=(hdm.row i hi).cell j hj;have hlt1:=hts.lt (by omega);have hlt2:=hdm.top.lt (by omega);have hlt3:=(hdm.row i hi).lt (by omega);simp only [ic] at hct hce;generalize hT:sumF (d i) n=T at *
 generalize hX:d i j=X at *
 clear hT hX hcash c0 c1
 have keepS:Hid (∀ w',Below w.heap.size w w'->w'.cell? ⟨b,2,none⟩=some (.slice da n dc)/\w'.cell? ⟨b,3,none⟩=some (.slice ta n tc)/\w'.cell? ⟨tb,t_o+i,none⟩=some (.int .i64 T)/\w'.cell? ⟨db,d_o+i,none⟩=some (.slice (ra i) n (rc i))/\w'.cell? ⟨rb i,ro i+j,none⟩=some (.int .i64 X)):=
  jj (fun w' hb=>⟨bel1 hb c2 hlt,bel1 hb c3 hlt,bel1 hb hct hlt1,bel1 hb hcd hlt2,bel1 hb hce hlt3⟩)
 have KW:Hid (Below w.heap.size w (w.alloc (Obj.cells #[.bool false,.slice none 0 0,.bool false,.slice none 0 0] 92))):=boxes1 w _;have PO:Hid (Own4 (w.alloc (Obj.cells #[.bool false,.slice none 0 0,.bool false,.slice none 0 0] 92)) w.heap.size (.bool false) (.slice none 0 0) (.bool false) (.slice none 0 0)):=own4_new _ _ rfl _ _ _ _ _;clear hts hdm c2 c3 hct hcd hce;obtain⟨c2,c3,hct,hcd,hce⟩:=keepS.out _ KW.out;by_cases h0:T=0
 ·have d0:(T == 0)=true:=by simpa using h0
  have H0:=jj h0;clear h0;go_enter Tryz.func86,Tryz.ntmps86
  go_wp2_with (first
   | (go_at_call 59;(with_reducible refine (rat_whole 0 (by omega) (by omega) _).mono ?_);rintro e w1 ⟨r1,rfl,hr1,hb1⟩;obtain⟨s1,a1,n1,c1,b1,m1,d1,rfl,KR⟩:=hr1.shape;clear hr1;have KW:=jj (jb KW.out hb1);have PO:=jj (PO.out.below hb1 PO.out.lt);obtain⟨x0,x1,x2,x3,xf,xl⟩:=PO.out))
  refine bodyPost_ret (v:=.agg #[.bool s1,.slice a1 n1 c1,.bool false,.slice b1 m1 d1]) (by simp [results,Tryz.results86,go_sem,x0,x1,x2,x3,xf]) rfl ?_;refine⟨_,rfl,RatIs.into (RatIs.le (m:=2) (by rw [shareQ,if_pos H0.out];exact KR.out) (by omega)) _ _ _ _ PO.out,below_set4 KW.out (by omega) _ _ _ _⟩
 ·have d0:(T == 0)=false:=by simpa using h0
  have HP:Hid (0<((T:Int):Rat).num):=jj (by rw [Rat.num_intCast];omega);have HQ:Hid ((X:Rat) / (T:Rat)=shareQ T X):=jj (by rw [shareQ,if_neg h0]);clear h0;go_enter Tryz.func86,Tryz.ntmps86;go_wp2;have KW0:=KW;have KW:=jj KW.out.drew;have PO:=jj PO.out.drew
  go_region_held3 (fun w'=>w'.cell? ⟨b,2,none⟩=some (.slice da n dc)/\w'.cell? ⟨b,3,none⟩=some (.slice ta n tc)/\w'.cell? ⟨tb,t_o+i,none⟩=some (.int .i64 T)/\w'.cell? ⟨db,d_o+i,none⟩=some (.slice (ra i) n (rc i))/\w'.cell? ⟨rb i,ro i+j,none⟩=some (.int .i64 X))
   (first | (with_reducible exact keepS.out _ KW0.out) | (with_reducible exact keepS.out _ KW.out) | (with_reducible exact keepS.out _ (below_set4 KW.out jl _ _ _ _)))
   (first
   | (go_at_call 59;(with_reducible refine (rat_whole X (by omega) (by omega) _).mono ?_);rintro e w1 ⟨r1,rfl,hr1,hb1⟩;(try have K2:=jj (K2.out.mono hb1 jl));obtain⟨s1,a1,n1,c1,b1,m1,d1,rfl,K1⟩:=hr1.shape;clear hr1;have KW:=jj (jb KW.out hb1);have PO:=jj (PO.out.below hb1 PO.out.lt))
   | (go_at_call 59;(with_reducible refine (rat_whole T (by omega) (by omega) _).mono ?_);rintro e w2 ⟨r2,rfl,hr2,hb2⟩;(try have K1:=jj (K1.out.mono hb2 jl));obtain⟨s2,a2,n2,e2,b2,m2,d2,rfl,K2⟩:=hr2.shape;clear hr2;have KW:=jj (jb KW.out hb2);have PO:=jj (PO.out.below hb2 PO.out.lt))
   | (go_at_call 122;(with_reducible refine (rat_div _ _ (X:Rat) (T:Rat) 2 _ K1.out K2.out HP.out (by omega) (by omega)).mono ?_);rintro e w3 ⟨r3,rfl,hr3,hb3⟩;rw [HQ.out] at hr3;obtain⟨s3,a3,n3,c3',b3,m3,d3,rfl,KR⟩:=hr3.shape;clear hr3;have KW:=jj (jb KW.out hb3);have PO:=jj (PO.out.below hb3 PO.out.lt);obtain⟨x0,x1,x2,x3,xf,xl⟩:=PO.out))
  all_goals (try go_wp2)
  all_goals
   refine bodyPost_ret (v:=.agg #[.bool s3,.slice a3 n3 c3',.bool false,.slice b3 m3 d3]) (by simp [results,Tryz.results86,go_sem,x0,x1,x2,x3,xf]) rfl ?_;exact⟨_,rfl,RatIs.into KR.out _ _ _ _ PO.out,below_set4 KW.out (by omega) _ _ _ _⟩
theorem rats_s:Tryz.prog.underlying 73=some (.slice (Tryz.prog.elem 73)):=by kernel_rfl
theorem rats_z (W:World):(sizeOf (Tryz.prog.elem 73)).run Tryz.prog W = .ok 4 W:=by kernel_rfl
theorem ixR (b o n c i : Nat) (hi : i < n) (W : World) :
  (Instr.indexAt 73 (.slice (some ⟨b,o,none⟩) n c) (.int .i64 (i:Int))).run Tryz.prog W = .ok (.pointer (some ⟨b,o+i*4,none⟩)) W:=by
 rw [run_indexAt_slice W _ _ _ _ _ _ rats_s,if_pos ⟨by omega,by omega⟩,rats_z];simp only [Result.andThen,Int.toNat_natCast];congr 3;unfold Addr.add;split
 ·rename_i h;simp [show i=0 by omega]
 ·rfl
theorem Rd4.drew {w:World} {b o:Nat} {x y z u:Value} (h:Rd4 w b o x y z u):Rd4 w.drew b o x y z u:=⟨h.c0,h.c1,h.c2,h.c3,h.lt⟩
def IsRats (w:World) (pb po n:Nat) (q:Nat->Rat) (K:Nat):Prop:=
 ∀ j,j<n->∃ s a m c a2 m2 c2,Rd4 w pb (po+j*4) (.bool s) (.slice a m c) (.bool false) (.slice a2 m2 c2)/\RatIs w (.agg #[.bool s,.slice a m c,.bool false,.slice a2 m2 c2]) (q j) K
theorem IsRats.mono {w w':World} {pb po n K B:Nat} {q:Nat->Rat} (h:IsRats w pb po n q K) (hb:Below B w w') (hB:w.heap.size<=B):IsRats w' pb po n q K:=fun j hj=>by
 obtain⟨s,a,m,c,a2,m2,c2,h1,h2⟩:=h j hj;exact⟨s,a,m,c,a2,m2,c2,h1.below hb (jm h1.lt hB),h2.mono hb hB⟩
def hasQ (n:Nat) (cash:Nat->Int) (d:Nat->Nat->Int) (q:Nat->Rat) (i:Nat):Rat:=
 (cash i:Rat)+sumQ (fun j=>q j*shareQ (sumF (d j) n) (d j i)) n
theorem RatIs.into' {w : World} {v : Value} {q : Rat} {m b : Nat} {s a c a2 c2 : _} {n n2 : Nat} (h : RatIs w v q m) (u0 u1 u2 u3 : Value) (ho : Own4 w b (.bool s) (.slice a n c) (.bool false) (.slice a2 n2 c2)) :
  RatIs ((((w.setCell ⟨b,0,none⟩ u0).setCell ⟨b,1,none⟩ u1).setCell ⟨b,2,none⟩ u2).setCell ⟨b,3,none⟩ u3) v q m:=
 h.store4 u0 u1 u2 u3 ho.c0 ho.c1 ho.c2 ho.c3 (noInt_bool _) (noInt_slice _ _ _) (noInt_bool _) (noInt_slice _ _ _)
theorem has_any (b n i : Nat) (cash : Nat -> Int) (d : Nat -> Nat -> Int) (vc vd vt : Value) (w : World) (hm : IsMkt w b n cash d vc vd vt) (hi : i < n) (hn : n <= 8)
  (hD:∀ j,j<n->0<=d j i/\d j i<=1000/\0<=sumF (d j) n/\sumF (d j) n<=100000) (hC:0<=cash i/\cash i<=100000)
  (pb po pc:Nat) (q:Nat->Rat) (K:Nat) (hp:IsRats w pb po n q K) (hK:4<=K) (hK2:K<=268435456) :
  Calls Tryz.prog 51 #[.pointer (some ⟨b,0,none⟩),.int .i64 (i:Nat),.slice (some ⟨pb,po,none⟩) n pc] w fun e w'=>∃ r,e = .returned r/\RatIs w' r (hasQ n cash d q i) (512*(K+1))/\Below w.heap.size w w':=by
 have HM:=jj hm;have HPR:=jj hp;have HD:=jj hD;obtain⟨c0,c1,c2,c3,⟨ca,cb,co,cc,rfl,hcs⟩,-,-,hlt⟩:=hm;clear hp hD c2 c3;have ixc:=fun W=>ixI hcs i cc hi W
 have hcc:=hcs.cell i hi;have hclt:=hcs.lt (by omega);simp only [ic] at hcc;obtain⟨hC0,hC1⟩:=hC;have hlen:0<n:=by omega
 have KW:Hid (Below w.heap.size w (w.alloc (Obj.cells #[.bool false,.slice none 0 0,.bool false,.slice none 0 0] 92))):=boxes1 w _;have PO:Hid (Own4 (w.alloc (Obj.cells #[.bool false,.slice none 0 0,.bool false,.slice none 0 0] 92)) w.heap.size (.bool false) (.slice none 0 0) (.bool false) (.slice none 0 0)):=own4_new _ _ rfl _ _ _ _ _
 have keepS:Hid (∀ w',Below w.heap.size w w'->w'.cell? ⟨b,0,none⟩=some (.int .i64 (n:Nat))/\w'.cell? ⟨b,1,none⟩=some (.slice ca n cc)/\w'.cell? ⟨cb,co+i,none⟩=some (.int .i64 (cash i))):=
  jj (fun w' hb=>⟨bel1 hb c0 hlt,bel1 hb c1 hlt,bel1 hb hcc hclt⟩)
 clear hcs c0 c1 hcc;obtain⟨c0,c1,hcc⟩:=keepS.out _ KW.out;go_enter Tryz.func51,Tryz.ntmps51
 go_wp2_with (first
   | (go_at_call 59;(with_reducible refine (rat_whole (cash i) (by omega) (by omega) _).mono ?_);rintro e w1 ⟨r1,rfl,hr1,hb1⟩;obtain⟨s1,a1,n1,c1',b1,m1,d1,rfl,KR⟩:=hr1.shape;clear hr1;have KW:=jj (jb KW.out hb1);have PO:=jj (PO.out.below hb1 PO.out.lt);clear c0 c1 hcc;obtain⟨c0,c1,hcc⟩:=keepS.out _ KW.out;have hz1:w.heap.size<w1.heap.size:=PO.out.lt;have hblt:b<w1.heap.size:=(by omega)))
 have PS:Hid (Own4 (w1.alloc (Obj.cells #[.bool s1,.slice a1 n1 c1',.bool false,.slice b1 m1 d1] 92)) w1.heap.size (.bool s1) (.slice a1 n1 c1') (.bool false) (.slice b1 m1 d1)):=own4_new _ _ rfl _ _ _ _ _;have KWA:Hid (Below w.heap.size w (w1.alloc (Obj.cells #[.bool s1,.slice a1 n1 c1',.bool false,.slice b1 m1 d1] 92))):=KW.out.alloc KW.out.size _;have POA:Hid (Own4 (w1.alloc (Obj.cells #[.bool s1,.slice a1 n1 c1',.bool false,.slice b1 m1 d1] 92)) w.heap.size (.bool false) (.slice none 0 0) (.bool false) (.slice none 0 0)):=PO.out.alloc _;have KRA:=jj (KR.out.mono (boxes1 w1 (Obj.cells #[.bool s1,.slice a1 n1 c1',.bool false,.slice b1 m1 d1] 92)) jl)
 have HPW:∀ k,k<=n->2 ^ k*(2*K+2)<=256*(2*K+2)/\2*K+2<=2 ^ k*(2*K+2):=fun k hk=>by
  have h1:2 ^ k<=2 ^ 8:=Nat.pow_le_pow_right (by omega) (by omega);have h2:1<=2 ^ k:=Nat.one_le_two_pow;exact⟨Nat.mul_le_mul_right _ h1,by have:=Nat.mul_le_mul_right (2*K+2) h2;omega⟩
 have HPW:=jj HPW;have hsb:=hz1;clear PS KW PO KR hb1 c0 c1 hcc ixc
 go_loopw [8, 21] (fun v8 v21 wr => ∃ k : Nat, k <= n /\ v21 = .int .i64 (k : Nat) /\ ∃ s a m c a2 m2 c2 B, Hid (Own4 wr w1.heap.size (.bool s) (.slice a m c) (.bool false) (.slice a2 m2 c2)) /\
   Hid (RatIs wr (.agg #[.bool s,.slice a m c,.bool false,.slice a2 m2 c2]) ((cash i:Rat)+sumQ (fun j=>q j*shareQ (sumF (d j) n) (d j i)) k) B)/\Hid (B+1=2 ^ k*(2*K+2))/\
   Hid (Own4 wr w.heap.size (.bool false) (.slice none 0 0) (.bool false) (.slice none 0 0))/\Hid (Below w.heap.size w wr)) (fun _ v21 _=>n - (intOf v21).toNat)
 case atStart=>
  refine⟨0,by omega,rfl,s1,a1,n1,c1',b1,m1,d1,2*K+1,own4_new _ _ rfl _ _ _ _ _,?_,?_,POA,KWA⟩
  ·exact jj (by rw [sumQ,Rat.add_zero];exact KRA.out.le (by omega))
  ·exact jj (by rw [Nat.pow_zero,Nat.one_mul])
 case round=>
  obtain⟨k,hk,rfl,s,a,m,c,a2,m2,c2,B,PS,KS,HB,PO,KW⟩:=hrel;by_cases h:k<n
  ·obtain⟨s',a',m',c',a2',m2',c2',PP,KP⟩:=(HPR.out.mono KW.out jl) k h;have PP:=jj PP;have KP:=jj KP;have hb1:=HPW.out k hk;have hb2:=HB.out;have hBK:2*K+1<=B:=by omega
   have hBb:2*B+1<=549755813888:=by omega
   clear hb1 hb2;obtain⟨hd1,hd2,hd3,hd4⟩:=HD.out k h;have HD4:=jj (show 0<=d k i/\d k i<=1000/\0<=sumF (d k) n/\sumF (d k) n<=100000 from ⟨hd1,hd2,hd3,hd4⟩);clear hd1 hd2 hd3 hd4;have ixr:=fun W=>ixR pb po n pc k h W
   have PS0:=PS;have PS:=jj PS.out.drew;have PO:=jj PO.out.drew;have KS:=jj (KS.out.drew);have KP:=jj (KP.out.drew);have PP0:=PP;have PP:=jj PP.out.drew;have KW:=jj KW.out.drew;have HMk:=jj (HM.out.mono KW.out jl);obtain⟨x0,x1,x2,x3,xf,xl⟩:=PS0.out;obtain⟨y0,y1,y2,y3,yl⟩:=PP0.out;go_wp2
   go_region_with (first
    | (go_at_call 86;go_loud ((with_reducible refine (share_any b n k i cash d _ _ _ _ HMk.out h hi HD4.out.1 HD4.out.2.1 HD4.out.2.2.1 HD4.out.2.2.2).mono ?_);rintro e w2 ⟨r2,rfl,hr2,hb2⟩;have KS:=jj (KS.out.mono hb2 jl);have KP:=jj (KP.out.mono hb2 jl);have PP:=jj (PP.out.below hb2 PP.out.lt);obtain⟨s2,e2,n2,f2,b2,m2x,d2,rfl,KH⟩:=hr2.shape;clear hr2;have KW:=jj (jb KW.out hb2);have PO:=jj (PO.out.below hb2 PO.out.lt);have PS:=jj (PS.out.below hb2 PS.out.lt);obtain⟨u0,u1,u2,u3,uf,ul⟩:=PS.out;obtain⟨v0,v1,v2,v3,vl⟩:=PP.out))
    | (go_at_call 85;(with_reducible refine (rat_mul _ _ (q k) (shareQ (sumF (d k) n) (d k i)) K _ KP.out (KH.out.le hK) (by omega) (by omega)).mono ?_);rintro e w3 ⟨r3,rfl,hr3,hb3⟩;have KS:=jj (KS.out.mono hb3 jl);obtain⟨s3,e3,n3,f3,b3,m3x,d3,rfl,KM⟩:=hr3.shape;clear hr3;have KW:=jj (jb KW.out hb3);have PO:=jj (PO.out.below hb3 PO.out.lt);have PS:=jj (PS.out.below hb3 PS.out.lt);obtain⟨g0,g1,g2,g3,gf,gl⟩:=PS.out)
    | (go_at_call 61;(with_reducible refine (rat_add _ _ _ (q k*shareQ (sumF (d k) n) (d k i)) B _ KS.out (KM.out.le (by omega)) (by omega) hBb).mono ?_);rintro e w4 ⟨r4,rfl,hr4,hb4⟩;obtain⟨s4,e4,n4,f4,b4,m4x,d4,rfl,KA⟩:=hr4.shape;clear hr4;have KW:=jj (jb KW.out hb4);have PO:=jj (PO.out.below hb4 PO.out.lt);have PS:=jj (PS.out.below hb4 PS.out.lt);obtain⟨t0,t1,t2,t3,tf,tl⟩:=PS.out))
   all_goals go_wp2
   all_goals
    go_roundw
    case rel=>
     refine⟨k+1,by omega,by go_num,s4,e4,n4,f4,b4,m4x,d4,2*B+1,PS.out.anew _ _ _ _,jj ?_,jj ?_,PO.out.set4 _ _ _ _ _ (by omega),below_set4 KW.out (by omega) _ _ _ _⟩
     ·rw [sumQ,<-Rat.add_assoc];exact RatIs.into' KA.out _ _ _ _ PS.out
     ·have:=HB.out;rw [Nat.pow_succ,Nat.mul_comm (2 ^ k) 2,Nat.mul_assoc];omega
    case measure=>simp [intOf];omega
  ·obtain rfl:k=n:=by omega
   obtain⟨x0,x1,x2,x3,xf,xl⟩:=PS.out;obtain⟨y0,y1,y2,y3,yf,yl⟩:=PO.out;have hb1:=(HPW.out k hk).1;have hb2:=HB.out;have hB:B<=512*(K+1):=by omega
   clear hb1 hb2;go_wp2;refine bodyPost_ret (v:=.agg #[.bool s,.slice a m c,.bool false,.slice a2 m2 c2]) (by simp [results,Tryz.results51,go_sem,y0,y1,y2,y3,yf]) rfl ?_;exact⟨_,rfl,RatIs.into (KS.out.le hB) _ _ _ _ PO.out,below_set4 KW.out (by omega) _ _ _ _⟩
theorem infoR:(Tryz.prog.info? 92).map (fun i=>(i.zero,i.size,i.bytes))=some (some (.agg #[.bool false,.slice none 0 0,.bool false,.slice none 0 0]),4,64):=by kernel_rfl
theorem infoRs:(Tryz.prog.info? 73).map (fun i=>(i.zero,i.size,i.bytes))=some (some (.slice none 0 0),1,24):=by kernel_rfl
theorem mkR0 (W:World):(Instr.makeSlice 73 (.int .i64 0) (.int .i64 0)).run Tryz.prog W = .ok (.slice (some ⟨W.heap.size,0,none⟩) 0 0) (W.alloc (.cells #[] 92)):=by
 obtain⟨i0,hi,hz0,hz1,hz2⟩:=info_parts infoR;have h:=run_make (P:=Tryz.prog) W 73 92 i0 _ Tryz.underlying73 hi hz0 .i64 .i64 0 0 (by omega) (by omega) (by rw [hz2];omega) (by omega);have e:madeCells (Value.agg #[.bool false,.slice none 0 0,.bool false,.slice none 0 0]).cells ((0:Int).toNat*4) = #[]:=by kernel_rfl
 rw [h,hz1,e];rfl
theorem mkM0 (W:World):(Instr.makeSlice 154 (.int .i64 0) (.int .i64 0)).run Tryz.prog W = .ok (.slice (some ⟨W.heap.size,0,none⟩) 0 0) (W.alloc (.cells #[] 73)):=by
 obtain⟨i0,hi,hz0,hz1,hz2⟩:=info_parts infoRs;have h:=run_make (P:=Tryz.prog) W 154 73 i0 _ Tryz.underlying154 hi hz0 .i64 .i64 0 0 (by omega) (by omega) (by rw [hz2];omega) (by omega);have e:madeCells (Value.slice none 0 0).cells ((0:Int).toNat*1) = #[]:=by kernel_rfl
 rw [h,hz1,e];rfl
theorem zero_none (w:World):Calls Tryz.prog 113 #[.int .i64 0,.int .i64 0] w fun e w'=>∃ g,e = .returned (.slice (some ⟨g,0,none⟩) 0 0)/\Below w.heap.size w w':=by
 have hmk:=mkM0;go_enter Tryz.func113,Tryz.ntmps113;go_wp2
 go_rounds 1
 go_ret;exact⟨_,rfl,(Below.refl _ _).alloc jl _⟩
theorem triangle_none (a:Option Addr) (c:Nat) (w:World):Calls Tryz.prog 139 #[.slice a 0 c] w fun e w'=>(∃ r,e = .returned r)/\Below w.heap.size w w':=by
 have KW:Hid (Below w.heap.size w (w.alloc (Obj.cells #[.bool false,.slice none 0 0,.bool false,.slice none 0 0] 92))):=boxes1 w _;have PO:Hid (Own4 (w.alloc (Obj.cells #[.bool false,.slice none 0 0,.bool false,.slice none 0 0] 92)) w.heap.size (.bool false) (.slice none 0 0) (.bool false) (.slice none 0 0)):=own4_new _ _ rfl _ _ _ _ _;go_enter Tryz.func139,Tryz.ntmps139
 go_wp2_with (first
   | (go_at_call 59;(with_reducible refine (rat_whole 1 (by omega) (by omega) _).mono ?_);rintro e w1 ⟨r1,rfl,hr1,hb1⟩;obtain⟨s1,a1,n1,c1,b1,m1,d1,rfl,KR⟩:=hr1.shape;clear hr1;have KW:=jj (jb KW.out hb1);have PO:=jj (PO.out.below hb1 PO.out.lt);obtain⟨x0,x1,x2,x3,xf,xl⟩:=PO.out))
 go_rounds 1
 have PF:=jj ((PO.out.anew (.bool s1) (.slice a1 n1 c1) (.bool false) (.slice b1 m1 d1)).alloc (Obj.cells #[.bool s1,.slice a1 n1 c1,.bool false,.slice b1 m1 d1] 92));obtain⟨y0,y1,y2,y3,yf,yl⟩:=PF.out;refine bodyPost_ret (v:=.agg #[.bool s1,.slice a1 n1 c1,.bool false,.slice b1 m1 d1]) (by simp [results,Tryz.results139,go_sem,y0,y1,y2,y3,yf]) rfl ?_;exact⟨⟨_,rfl⟩,(below_set4 KW.out (by omega) _ _ _ _).alloc (by simp only [World.setCell,Array.size_modify];exact KW.out.size) _⟩
theorem lsolve_none (a:Option Addr) (c:Nat) (v:Value) (w:World):Calls Tryz.prog 115 #[.slice a 0 c,v] w fun e w'=>∃ g,e = .returned (.slice (some ⟨g,0,none⟩) 0 0)/\Below w.heap.size w w':=by
 have hmk:=mkR0;go_enter Tryz.func115,Tryz.ntmps115;go_wp2;refine wp_loop_rounds 1 ?_;rw [rounds_succ]
 go_wp2_with (first
   | (go_at_call 139;(with_reducible refine (triangle_none _ _ _).mono ?_);rintro e w1 ⟨⟨r1,rfl⟩,hb1⟩))
 go_rounds 1
 go_ret;exact⟨_,rfl,hb1.alloc hb1.size _⟩
end Go.Proofs.YtgmopcncbpdniaaGreat
namespace Go.Proofs.YtgmopcncbpdniaaGreat
open Go.RowKit
abbrev st4 (w:World) (g o:Nat) (u0 u1 u2 u3:Value):World:=
 (((w.setCell ⟨g,o,none⟩ u0).setCell ⟨g,o+1,none⟩ u1).setCell ⟨g,o+2,none⟩ u2).setCell ⟨g,o+3,none⟩ u3
theorem size_st4 (w:World) (g o:Nat) (u0 u1 u2 u3:Value):(st4 w g o u0 u1 u2 u3).heap.size=w.heap.size:=by simp [st4,World.setCell]
theorem frozen_st4 (w:World) (g o:Nat) (u0 u1 u2 u3:Value) (a:Addr):(st4 w g o u0 u1 u2 u3).frozen? a=w.frozen? a:=by simp only [st4,World.frozen?_setCell]
theorem Rd4.anew {w:World} {g o:Nat} {x y z u:Value} (h:Rd4 w g o x y z u) (u0 u1 u2 u3:Value):Rd4 (st4 w g o u0 u1 u2 u3) g o u0 u1 u2 u3:=
  ⟨off_set (by omega) (off_set (by omega) (off_set (by omega) (self_set h.c0))),
   off_set (by omega) (off_set (by omega) (self_set (off_set (by omega) h.c1))),
   off_set (by omega) (self_set (off_set (by omega) (off_set (by omega) h.c2))),
   self_set (off_set (by omega) (off_set (by omega) (off_set (by omega) h.c3))),by rw [size_st4];exact h.lt⟩
theorem off4 {w:World} {g o o':Nat} {v:Value} (u0 u1 u2 u3:Value) (h0:o'<o\/o+4<=o') (h:w.cell? ⟨g,o',none⟩=some v):(st4 w g o u0 u1 u2 u3).cell? ⟨g,o',none⟩=some v:=
 off_set (by omega) (off_set (by omega) (off_set (by omega) (off_set (by omega) h)))
theorem Rd4.off {w:World} {g o o':Nat} {x y z u:Value} (h:Rd4 w g o' x y z u) (u0 u1 u2 u3:Value) (h0:o'+4<=o\/o+4<=o'):Rd4 (st4 w g o u0 u1 u2 u3) g o' x y z u:=
 ⟨off4 _ _ _ _ (by omega) h.c0,off4 _ _ _ _ (by omega) h.c1,off4 _ _ _ _ (by omega) h.c2,off4 _ _ _ _ (by omega) h.c3,by rw [size_st4];exact h.lt⟩
theorem far4 {w:World} {g o b o':Nat} (u0 u1 u2 u3:Value) (hne:g≠b):(st4 w g o u0 u1 u2 u3).cell? ⟨b,o',none⟩=w.cell? ⟨b,o',none⟩:=by
 simp only [st4];rw [far_set _ _ _ _ _ _ hne,far_set _ _ _ _ _ _ hne,far_set _ _ _ _ _ _ hne,far_set _ _ _ _ _ _ hne]
theorem Rd4.far {w:World} {g o b o':Nat} {x y z u:Value} (h:Rd4 w b o' x y z u) (u0 u1 u2 u3:Value) (hne:g≠b):Rd4 (st4 w g o u0 u1 u2 u3) b o' x y z u:=
 ⟨(far4 _ _ _ _ hne).trans h.c0,(far4 _ _ _ _ hne).trans h.c1,(far4 _ _ _ _ hne).trans h.c2,(far4 _ _ _ _ hne).trans h.c3,by rw [size_st4];exact h.lt⟩
theorem Mag.at4 {w:World} {v:Value} {x g o:Nat} (h:Mag w v x) (u0 u1 u2 u3:Value) {v0 v1 v2 v3:Value} (hr:Rd4 w g o v0 v1 v2 v3) (n0:NoInt v0) (n1:NoInt v1) (n2:NoInt v2) (n3:NoInt v3):Mag (st4 w g o u0 u1 u2 u3) v x:=by
 refine (((h.store1 u0 hr.c0 n0).store1 u1 ?_ n1).store1 u2 ?_ n2).store1 u3 ?_ n3
 ·exact off_set (by omega) hr.c1
 ·exact off_set (by omega) (off_set (by omega) hr.c2)
 ·exact off_set (by omega) (off_set (by omega) (off_set (by omega) hr.c3))
theorem RatIs.at4 {w : World} {v : Value} {q : Rat} {m g o : Nat} {s t : Bool} {a a2 : Option Addr} {n c n2 c2 : Nat} (h : RatIs w v q m) (u0 u1 u2 u3 : Value) (hr : Rd4 w g o (.bool s) (.slice a n c) (.bool t) (.slice a2 n2 c2)) :
  RatIs (st4 w g o u0 u1 u2 u3) v q m:=by
 obtain⟨u,d,rfl,m1,m2,m3⟩:=h;exact⟨u,d,rfl,m1.at4 u0 u1 u2 u3 hr (noInt_bool _) (noInt_slice _ _ _) (noInt_bool _) (noInt_slice _ _ _),m2.at4 u0 u1 u2 u3 hr (noInt_bool _) (noInt_slice _ _ _) (noInt_bool _) (noInt_slice _ _ _),m3⟩
structure RowP (w:World) (g n:Nat) (P:Nat->Prop) (q:Nat->Rat) (K:Nat):Prop where
 cell:∀ j,j<n->∃ s a m c a2 m2 c2,Rd4 w g (j*4) (.bool s) (.slice a m c) (.bool false) (.slice a2 m2 c2)/\(P j->RatIs w (.agg #[.bool s,.slice a m c,.bool false,.slice a2 m2 c2]) (q j) K)
 f:∀ o,w.frozen? ⟨g,o,none⟩=false
 lt:g<w.heap.size
abbrev RatRow (w:World) (g n:Nat) (q:Nat->Rat) (K:Nat):Prop:=RowP w g n (fun _=>True) q K
variable {w w':World} {g n K B i o:Nat} {P:Nat->Prop} {q:Nat->Rat}
theorem RowP.below (h:RowP w g n P q K) (hb:Below B w w') (hB:w.heap.size<=B):RowP w' g n P q K:=
  ⟨fun j hj=>by
    obtain⟨s,a,m,c,a2,m2,c2,h1,h2⟩:=h.cell j hj;exact⟨s,a,m,c,a2,m2,c2,h1.below hb (jm h1.lt hB),fun p=>(h2 p).mono hb hB⟩,
   fun o=>(hb.frozen (p:=⟨g,o,none⟩) (jm h.lt hB)).trans (h.f o),jm h.lt hb.size⟩
theorem RowP.drew (h:RowP w g n P q K):RowP w.drew g n P q K:=h.below ((Drawn.of w 1).below w.heap.size) jl
theorem RowP.alloc (h:RowP w g n P q K) (o:Obj):RowP (w.alloc o) g n P q K:=h.below ((jr w).alloc jl o) jl
def updQ (q:Nat->Rat) (i:Nat) (x:Rat):Nat->Rat:=fun j=>if j=i then x else q j
theorem RowP.set (h : RowP w g n P q K) (hi : i < n) (ho : o = i * 4) {s : Bool} {a a2 : Option Addr} {m c m2 c2 : Nat} {x : Rat}
  (hx:RatIs w (.agg #[.bool s,.slice a m c,.bool false,.slice a2 m2 c2]) x K) :
  RowP (st4 w g o (.bool s) (.slice a m c) (.bool false) (.slice a2 m2 c2)) g n (fun j=>j=i\/P j) (updQ q i x) K:=by
 subst ho;obtain⟨s',a',m',c',a2',m2',c2',hr,hv⟩:=h.cell i hi;refine⟨fun j hj=>?_,fun o=>by rw [frozen_st4];exact h.f o,by rw [size_st4];exact h.lt⟩;by_cases e:j=i
 ·subst e;exact⟨s,a,m,c,a2,m2,c2,hr.anew _ _ _ _,fun _=>by rw [updQ,if_pos rfl];exact hx.at4 _ _ _ _ hr⟩
 ·obtain⟨s1,a1,m1,c1,b1,m3,c3,hr1,hv1⟩:=h.cell j hj;exact⟨s1,a1,m1,c1,b1,m3,c3,hr1.off _ _ _ _ (by omega),fun p=>by rw [updQ,if_neg e];exact (hv1 (p.resolve_left e)).at4 _ _ _ _ hr⟩
theorem RowP.le {K':Nat} (h:RowP w g n P q K) (hk:K<=K'):RowP w g n P q K':=
 ⟨fun j hj=>by obtain⟨s,a,m,c,a2,m2,c2,hr,hv⟩:=h.cell j hj;exact⟨s,a,m,c,a2,m2,c2,hr,fun p=>(hv p).le hk⟩,h.f,h.lt⟩
theorem RowP.congr {P':Nat->Prop} {q':Nat->Rat} (h:RowP w g n P q K) (hP:∀ j,j<n->P' j->P j/\q j=q' j):RowP w g n P' q' K:=
 ⟨fun j hj=>by obtain⟨s,a,m,c,a2,m2,c2,hr,hv⟩:=h.cell j hj;exact⟨s,a,m,c,a2,m2,c2,hr,fun p=>by rw [<-(hP j hj p).2];exact hv (hP j hj p).1⟩,h.f,h.lt⟩
theorem RowP.rats (h:RatRow w g n q K):IsRats w g 0 n q K:=fun j hj=>by
 obtain⟨s,a,m,c,a2,m2,c2,hr,hv⟩:=h.cell j hj;exact⟨s,a,m,c,a2,m2,c2,by rw [Nat.zero_add];exact hr,hv trivial⟩
theorem below_st4 {w0:World} {b:Nat} (h:Below B w0 w) (hB:B<=b) (u0 u1 u2 u3:Value):Below B w0 (st4 w b o u0 u1 u2 u3):=
 (((h.setCell hB _).setCell hB _).setCell hB _).setCell hB _
attribute [local go_sem ↓] Go.wp_at_zero Go.wp_at_succ
theorem lmat_s:Tryz.prog.underlying 154=some (.slice (Tryz.prog.elem 154)):=by kernel_rfl
theorem lmat_z (W:World):(sizeOf (Tryz.prog.elem 154)).run Tryz.prog W = .ok 1 W:=by kernel_rfl
theorem ixL (b o n c i : Nat) (hi : i < n) (W : World) :
  (Instr.indexAt 154 (.slice (some ⟨b,o,none⟩) n c) (.int .i64 (i:Int))).run Tryz.prog W = .ok (.pointer (some ⟨b,o+i,none⟩)) W:=
 run_indexAt_opt 154 lmat_s lmat_z _ b o n c (fun _=>rfl) .i64 i (by omega) (by omega) W
theorem rowIx (b n c i : Nat) (hi : i < n) (W : World) :
  (Instr.indexAt 73 (.slice (some ⟨b,0,none⟩) n c) (.int .i64 (i:Int))).run Tryz.prog W = .ok (.pointer (some ⟨b,i*4,none⟩)) W:=by
 rw [ixR b 0 n c i hi W,Nat.zero_add]
theorem madd_any (g n gc i r m rc j : Nat) (q : Nat -> Rat) (P : Nat -> Prop) (K : Nat) (xv : Value) (x : Rat) (w : World) (hg : w.cell? ⟨g, i, none⟩ = some (.slice (some ⟨r, 0, none⟩) m rc)) (hi : i < n) (hj : j < m)
  (hr:RowP w r m P q K) (hP:P j) (hx:RatIs w xv x K) (hK:1<=K) (hK2:2*K+1<=549755813888) :
  Calls Tryz.prog 114 #[.slice (some ⟨g,0,none⟩) n gc,.int .i64 (i:Nat),.int .i64 (j:Nat),xv] w fun e w'=>∃ w1 s a m c a2 m2 c2,e = .returned (.tuple #[])/\
   w'=st4 w1 r (j*4) (.bool s) (.slice a m c) (.bool false) (.slice a2 m2 c2)/\Below w.heap.size w w1/\RatIs w1 (.agg #[.bool s,.slice a m c,.bool false,.slice a2 m2 c2]) (q j+x) (2*K+1):=by
 obtain⟨s1,a1,n1,c1,a2,n2,c2,rfl,H1⟩:=hx.shape;clear hx
 have hgl:g<w.heap.size:=by
  rcases Nat.lt_or_ge g w.heap.size with h | h
  ·exact h
  ·have:w.cell? ⟨g,i,none⟩=none:=by simp [World.cell?,Array.getElem?_eq_none h]
   rw [this] at hg;cases hg
 obtain⟨s2,a3,n3,c3,a4,n4,c4,hr4,hv⟩:=hr.cell j hj;have KE:=jj (hv hP);have HF:=hr.f;have hrl:=hr.lt;have ix1:=fun W=>ixL g 0 n gc i hi W
 have ix2:=fun W=>rowIx r m rc j hj W
 simp only [Nat.zero_add] at ix1;have HB0:=jj (boxes1 w (Obj.cells #[.bool s1,.slice a1 n1 c1,.bool false,.slice a2 n2 c2] 92));have R4:=jj hr4;have HX:=jj (H1.out.mono HB0.out jl).drew;have KE:=jj (KE.out.mono HB0.out jl).drew;have KW:=jj HB0.out.drew;have O1:=jj (own4_new w _ rfl (.bool s1) (.slice a1 n1 c1) (.bool false) (.slice a2 n2 c2) 92);have g0:=bel1 HB0.out hg hgl;have G0:=jj hg;obtain⟨x0,x1,x2,x3,_⟩:=(R4.out.below HB0.out hrl);obtain⟨y0,y1,y2,y3,_,_⟩:=O1.out;clear hr hv hr4 hg;have HF:=jj HF;go_enter Tryz.func114,Tryz.ntmps114;go_wp2
 go_region_with (first
  | (go_at_call 61;(with_reducible refine (rat_add _ _ (q j) x K _ KE.out HX.out hK hK2).mono ?_);rintro e w2 ⟨r2,rfl,hr2,hb2⟩;obtain⟨s5,a5,n5,c5,a6,n6,c6,rfl,KR⟩:=hr2.shape;clear hr2;have KW:=jj (jb KW.out hb2);obtain⟨z0,z1,z2,z3,_⟩:=R4.out.below KW.out hrl;have zf:=fun o=>(KW.out.frozen (p:=⟨r,o,none⟩) hrl).trans (HF.out o);have g2:=bel1 KW.out G0.out hgl))
 all_goals go_wp2
 all_goals go_end0
 all_goals exact⟨w2,s5,a5,n5,c5,a6,n6,c6,rfl,rfl,KW.out,KR.out⟩
theorem alloc_setRow (w:World) (z c:Array Value) (t:TypeId):(w.alloc (.cells z t)).setRow w.heap.size c=w.alloc (.cells c t):=by
 unfold World.setRow World.alloc;simp only [World.mk.injEq,and_true,true_and];apply Array.ext
 ·simp
 ·intro i h1 h2;simp only [Array.getElem_modify,Array.getElem_push];by_cases h:i<w.heap.size
  ·have:¬ w.heap.size=i:=by omega
   simp [h,this]
  ·have:w.heap.size=i:=by simp at h1;omega
   simp [this]
theorem run_copy_rowS {P : Program} (w : World) (dT sT ty elem : TypeId) (g o dLen dCap : Nat) (a : Addr) (sLen sCap : Nat) (cur : Array Value) (t : TypeId) (cs : List Value) (s n : Nat)
  (hu:P.underlying dT=some (.slice elem)) (hs:(P.info? elem).map (·.size)=some s)
  (hg:w.heap[g]? = some (.cells cur t (0,0))) (hn:n=Nat.min sLen dLen) (hcs:cs.length=n*s)
  (hsrc:∀ j v,cs[j]? = some v->w.cell? (a.add j)=some v) (hfit:o+cs.length<=cur.size) (h1:∀ v ∈ cs,v.oneCell'=true) :
  (Builtin.copy_ #[dT,sT] ty #[.slice (some ⟨g,o,none⟩) dLen dCap,.slice (some a) sLen sCap]).run P w =
   .ok (goInt n) (w.setRow g (cur.toList.take o ++ cs ++ cur.toList.drop (o+cs.length)).toArray):=by
 have hl:=run_loadCells_list (P:=P) w a cs hsrc;have hst:=run_storeCells_at P g o t cs 0 cur w hg (by simpa using hfit) h1;rw [hcs] at hl;cases hq:P.info? elem with
 | none=>simp [hq] at hs
 | some i=>
  have hi:i.size=s:=by simpa [hq] using hs
  simp [Builtin.copy_,run_underlying hu,Builtin.lenOf,Builtin.firstCells,sizeOf,typeInfo,hq,hi,<-hn,hl,hst]
theorem RatIs.store1 {w:World} {v:Value} {q:Rat} {m b o:Nat} (h:RatIs w v q m) (u:Value) {v0:Value} (hp:w.cell? ⟨b,o,none⟩=some v0) (hn:NoInt v0):RatIs (w.setCell ⟨b,o,none⟩ u) v q m:=by
 obtain⟨u',d,rfl,m1,m2,m3⟩:=h;exact⟨u',d,rfl,m1.store1 u hp hn,m2.store1 u hp hn,m3⟩
theorem RowP.storeFar {w:World} {g n K b o:Nat} {P:Nat->Prop} {q:Nat->Rat} (h:RowP w g n P q K) (u:Value) {v0:Value} (hp:w.cell? ⟨b,o,none⟩=some v0) (hn:NoInt v0) (hne:b≠g):RowP (w.setCell ⟨b,o,none⟩ u) g n P q K:=
  ⟨fun j hj=>by
    obtain⟨s,a,m,c,a2,m2,c2,hr,hv⟩:=h.cell j hj;exact⟨s,a,m,c,a2,m2,c2,⟨(far_set _ _ _ _ _ _ hne).trans hr.c0,(far_set _ _ _ _ _ _ hne).trans hr.c1,(far_set _ _ _ _ _ _ hne).trans hr.c2,(far_set _ _ _ _ _ _ hne).trans hr.c3,by simp only [World.setCell,Array.size_modify];exact hr.lt⟩,fun p=>(hv p).store1 u hp hn⟩,
   fun o'=>by rw [World.frozen?_setCell];exact h.f o',by simp only [World.setCell,Array.size_modify];exact h.lt⟩
end Go.Proofs.YtgmopcncbpdniaaGreat
