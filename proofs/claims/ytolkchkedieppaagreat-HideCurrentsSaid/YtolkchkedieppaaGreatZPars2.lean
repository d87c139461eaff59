import Derived.Test.YtolkchkedieppaaGreatZQShp
set_option linter.unusedVariables false
set_option linter.unusedSimpArgs false
namespace Go.Proofs.YtolkchkedieppaaGreat
open Go.RowKit
attribute [local go_sem ↓] Go.wp_at_zero Go.wp_at_succ
def slD (f:Nat→Nat) (L:Nat):Nat→Nat
 | 0=>L
 | j+1=>if f (L - (j+1))=47 then L - (j+1) else slD f L j
theorem slD_le (f:Nat→Nat) (L:Nat):∀ j,slD f L j≤L
 | 0=>Nat.le_refl _
 | j+1=>by simp only [slD];split <;> first | omega | exact slD_le f L j
theorem ZIs.alloc {w:World} {v:Value} {z:Int} {m:Nat} (h:ZIs w v z m) (o:Obj):ZIs (w.alloc o) v z m:=h.mono ((Below.refl w.heap.size w).alloc (Nat.le_refl _) o) (Nat.le_refl _)
theorem zint_nat (v:Nat) (h:v<100) (w:World):Calls Tryz.prog 76 #[.int .i64 ((v:Nat):Int)] w fun e w'=>∃ a c,e = .returned (.agg #[.bool false,.slice a (nd v) c])∧Hid (ZIs w' (.agg #[.bool false,.slice a (nd v) c]) ((v:Nat):Int) 1000)∧Below w.heap.size w w':=by
 refine (zint_any v (by omega) (by omega) w).mono ?_
 rintro e w' ⟨r,rfl,hr,hb⟩
 obtain⟨a,c,rfl,h1⟩:=hr.shapeN
 exact⟨a,c,rfl,Lib.hid (h1.out.le (by omega)),hb⟩
theorem zint_one (w:World):Calls Tryz.prog 76 #[.int .i64 1] w fun e w'=>∃ a c,e = .returned (.agg #[.bool false,.slice a (nd 1) c])∧Hid (ZIs w' (.agg #[.bool false,.slice a (nd 1) c]) ((1:Nat):Int) 1000)∧Below w.heap.size w w':=zint_nat 1 (by decide) w
theorem zint_two (w:World):Calls Tryz.prog 76 #[.int .i64 2] w fun e w'=>∃ a c,e = .returned (.agg #[.bool false,.slice a (nd 2) c])∧Hid (ZIs w' (.agg #[.bool false,.slice a (nd 2) c]) ((2:Nat):Int) 1000)∧Below w.heap.size w w':=zint_nat 2 (by decide) w
theorem digits_yes (s:ByteArray) (L:Nat) (f:Nat→Nat) (N:Nat) (w:World) (hs:Bts s L f) (hok:okD L f) (hN:numD L f=N) :
  Calls Tryz.prog 152 #[.string s] w fun e w'=>∃ a c,e = .returned (.tuple #[.agg #[.bool false,.slice a (nd N) c],.bool true])∧Hid (ZIs w' (.agg #[.bool false,.slice a (nd N) c]) ((N:Nat):Int) 1000)∧Below w.heap.size w w':=by
 refine (digits_any s L f true N w hs ⟨fun _=>hok,fun _=>rfl⟩ (by simp [hN])).mono ?_
 rintro e w' ⟨u,rfl,hu,hb⟩
 obtain⟨a,c,rfl,h1⟩:=hu.shapeN
 exact⟨a,c,rfl,h1,hb⟩
theorem gcd_one (x y:Value) (N D k:Nat) (w:World) (ha:ZIs w x ((N:Nat):Int) k) (hb:ZIs w y ((D:Nat):Int) k) (hk:k≤274877906944) (hg:Nat.gcd N D=1) :
  Calls Tryz.prog 79 #[x,y] w fun e w'=>∃ a c,e = .returned (.agg #[.bool false,.slice a (nd 1) c])∧Hid (ZIs w' (.agg #[.bool false,.slice a (nd 1) c]) ((1:Nat):Int) k)∧Below w.heap.size w w':=by
 refine (zgcd_any x y N D k w ha hb hk).mono ?_
 rintro e w' ⟨r,rfl,hr,hb⟩
 have e1:Int.gcd ((N:Nat):Int) ((D:Nat):Int)=1:=hg
 rw [e1] at hr
 obtain⟨a,c,rfl,h1⟩:=hr.shapeN
 exact⟨a,c,rfl,h1,hb⟩
theorem sgZ_zero:sgZ (((1:Nat):Int) - ((1:Nat):Int))=0:=by decide
theorem sgZ_0:sgZ 0=0:=by decide
theorem sgZ_two {D:Nat} (h:2≤D):decide (sgZ (((D:Nat):Int) - 2)<0)=false:=by
 unfold sgZ
 rw [if_neg (by omega)]
 split <;> decide
set_option maxHeartbeats 8000000 in
set_option maxRecDepth 100000 in
theorem parse_ms (s s1 h1 t1:ByteArray) (f g1 g2:Nat→Nat) (sl N m D:Nat) (w:World)
  (hlong:s.size≤8002) (hp:0<s.size) (x0:s[0].toNat=45) (es:s.extract 1 s.size=s1) (hs1:Bts s1 s1.size f) (hsl:slD f s1.size s1.size=sl) (eh:s1.extract 0 sl=h1) (bh:Bts h1 sl g1) (oh:okD sl g1) (hN:numD sl g1=N) (hlt:sl<s1.size) (et:s1.extract (sl+1) s1.size=t1) (bt:Bts t1 m g2) (ot:okD m g2) (hD:numD m g2=D) (h2:2≤D) (hg:Nat.gcd N D=1) (hN0:0<N) :
  Calls Tryz.prog 126 #[.string s] w fun e w'=>∃ r,e = .returned (.tuple #[r,.bool true])∧QIs w' r (-((N:Nat):Int)) ((D:Nat):Int) 1000∧Below w.heap.size w w':=by
 have hle:=slD_le f s1.size s1.size
 rw [hsl] at hle
 have HB:=Lib.hid hs1.2
 have HSL:=Lib.hid hsl
 have BH:=Lib.hid bh
 have OH:=Lib.hid oh
 have HN:=Lib.hid hN
 have R2:=Lib.hid (own4_new w w.heap.size rfl (.bool false) (.slice none 0 0) (.bool false) (.slice none 0 0) 59)
 have KW:=Lib.hid (boxes1 w (.cells #[.bool false,.slice none 0 0,.bool false,.slice none 0 0] 59))
 have dl:decide ((8002:Int)<(s.size:Int))=false:=by simp;omega
 have dl2:decide (8002<s.size)=false:=by simp;omega
 have ls:s1.size≤8002:=by rw [←es,ByteArray.size_extract];omega
 have BT:=Lib.hid bt
 have OT:=Lib.hid ot
 have HD:=Lib.hid hD
 have H2:=Lib.hid h2
 have HG:=Lib.hid hg
 clear bt ot hD hg
 have HN0:=Lib.hid hN0
 have hp2:(0:Int)<(s.size:Int):=by omega
 have hp3:(1:Int)≤(s.size:Int):=by omega
 have hp4:1≤s.size:=by omega
 clear hN0
 clear hs1 hsl bh oh hN hlong
 go_enter Tryz.func126,Tryz.ntmps126
 go_wp2
 go_loop [6,7] (fun v6 v7=>∃ j q:Nat,j≤s1.size∧v7 = .int .i64 ((s1.size:Int) - 1 - ((j:Nat):Int))∧v6 = .int .i64 ((q:Nat):Int)∧Hid (q=slD f s1.size j)) (fun v6 v7=>(intOf v7+1).toNat)
 case atStart=>exact⟨0,s1.size,Nat.zero_le _,by simp,rfl,Lib.hid rfl⟩
 case round=>
  obtain⟨j,q,hj,rfl,rfl,HQ⟩:=hrel
  by_cases hj0:j<s1.size
  ·obtain⟨i,hi⟩:∃ i,i=s1.size - (j+1):=⟨_,rfl⟩
   have hi2:(s1.size:Int) - 1 - ((j:Nat):Int)=((i:Nat):Int):=by omega
   have hiL:i<s1.size:=by omega
   rw [hi2]
   have q0:decide ((0:Int)≤((i:Nat):Int))=true:=by simp
   have q1:((i:Nat):Int)<(s1.size:Int):=by omega
   have xi:=HB.out i hiL
   obtain⟨c,hc⟩:∃ c,c=f i:=⟨_,rfl⟩
   rw [←hc] at xi
   have HI:=Lib.hid hi
   have HI2:=Lib.hid hi2
   have HJ:=Lib.hid hj0
   clear hi hi2 hj0
   by_cases h47:c=47
   ·have e47:(((c:Nat):Int) == 47)=true:=by simp;omega
    have HQ2:Hid (i=slD f s1.size (j+1)):=Lib.hid (by simp only [slD];rw [←HI.out,←hc,if_pos h47])
    clear h47 hc
    go_wp2
    go_round
    case rel=>exact⟨j+1,i,by have:=HJ.out;omega,by have:=HI2.out;go_num,rfl,HQ2⟩
    case measure=>simp [intOf]
   ·have e47:(((c:Nat):Int) == 47)=false:=by simp;omega
    have HQ2:Hid (q=slD f s1.size (j+1)):=Lib.hid (by simp only [slD];rw [←HI.out,←hc,if_neg h47];exact HQ.out)
    clear h47 hc
    go_wp2
    go_round
    case rel=>exact⟨j+1,q,by have:=HJ.out;omega,by have:=HI2.out;go_num,rfl,HQ2⟩
    case measure=>simp [intOf]
  ·obtain rfl:j=s1.size:=by omega
   have q0:(s1.size:Int) - 1 - ((s1.size:Nat):Int) = -1:=by omega
   rw [q0]
   obtain rfl:sl=q:=(HQ.out.trans HSL.out).symm
   have l0:((sl:Nat):Int)≤(s1.size:Int):=by omega
   have l1:decide (((sl:Nat):Int)<(s1.size:Int))=true:=by simp;omega
   have l1':decide (sl<s1.size)=true:=by simp;omega
   have l2:(0:Int)≤((sl:Nat):Int)+1:=by omega
   have l3:((sl:Nat):Int)+1≤(s1.size:Int):=by omega
   have l4:(((sl:Nat):Int)+1).toNat=sl+1:=by omega
   clear hj hj0 q0 HQ HSL hle hlt
   have hnz:=(nd_pos N).2 HN0.out
   have dz1:(((nd N:Nat):Int) == 0)=false:=by simp;omega
   have dz2:(nd N == 0)=false:=by simp;omega
   have dz3:¬ nd N=0:=by omega
   clear hnz
   have T1:=Lib.hid True.intro
   have xR20:=R2.out.c0
   have xR21:=R2.out.c1
   have xR22:=R2.out.c2
   have xR23:=R2.out.c3
   have xR2f:=R2.out.f
   have xR2l:=R2.out.lt
   go_wp2_with (first
    | (go_at_call 152;have B1:=BH.out;have O1:=OH.out;have N1:=HN.out;clear BH OH HN;(with_reducible refine (digits_yes _ sl g1 N _ B1 O1 N1).mono ?_);rintro e w1 ⟨a1,c1,rfl,Z1,hb1⟩;clear xR20 xR21 xR22 xR23 xR2f xR2l;have n1:w.heap.size+1≤w1.heap.size:=(by have:=hb1.size;simpa using this);have R2:=Lib.hid (R2.out.below hb1 R2.out.lt);have KW:=Lib.hid (KW.out.trans (hb1.mono KW.out.size));have xR20:=R2.out.c0;have xR21:=R2.out.c1;have xR22:=R2.out.c2;have xR23:=R2.out.c3;have xR2f:=R2.out.f;have xR2l:=R2.out.lt)
    | (go_at_call 76;have Z1:=Lib.hid (Z1.out.alloc (Obj.cells #[.bool false,.slice a1 (nd N) c1] 57));have R2:=Lib.hid (R2.out.alloc (Obj.cells #[.bool false,.slice a1 (nd N) c1] 57));have KW:=Lib.hid (KW.out.alloc KW.out.size (Obj.cells #[.bool false,.slice a1 (nd N) c1] 57));have B8:=Lib.hid (own2_new w1 w1.heap.size rfl (.bool false) (.slice a1 (nd N) c1) 57);have TK:=T1.out;clear T1 TK;(with_reducible refine (zint_one _).mono ?_);rintro e w2 ⟨a2,c2,rfl,Z2,hb2⟩;clear xR20 xR21 xR22 xR23 xR2f xR2l;have n2:w1.heap.size+1≤w2.heap.size:=(by have:=hb2.size;simpa using this);have Z1:=Lib.hid (Z1.out.mono hb2 (Nat.le_refl _));have R2:=Lib.hid (R2.out.below hb2 R2.out.lt);have B8:=Lib.hid (B8.out.below hb2 B8.out.lt);have KW:=Lib.hid (KW.out.trans (hb2.mono KW.out.size));have xR20:=R2.out.c0;have xR21:=R2.out.c1;have xR22:=R2.out.c2;have xR23:=R2.out.c3;have xR2f:=R2.out.f;have xR2l:=R2.out.lt;have xB80:=B8.out.c0;have xB81:=B8.out.c1;have xB8f:=B8.out.f;have xB8l:=B8.out.lt)
    | (go_at_call 152;have B2:=BT.out;have O2:=OT.out;have N2:=HD.out;clear BT OT HD;have Z1:=Lib.hid (Z1.out.alloc (Obj.cells #[.bool false,.slice a2 (nd 1) c2] 57));have Z2:=Lib.hid (Z2.out.alloc (Obj.cells #[.bool false,.slice a2 (nd 1) c2] 57));have R2:=Lib.hid (R2.out.alloc (Obj.cells #[.bool false,.slice a2 (nd 1) c2] 57));have B8:=Lib.hid (B8.out.alloc (Obj.cells #[.bool false,.slice a2 (nd 1) c2] 57));have KW:=Lib.hid (KW.out.alloc KW.out.size (Obj.cells #[.bool false,.slice a2 (nd 1) c2] 57));have B10:=Lib.hid (own2_new w2 w2.heap.size rfl (.bool false) (.slice a2 (nd 1) c2) 57);(with_reducible refine (digits_yes _ m g2 D _ B2 O2 N2).mono ?_);rintro e w3 ⟨a3,c3,rfl,Z3,hb3⟩;clear xR20 xR21 xR22 xR23 xR2f xR2l xB80 xB81 xB8f xB8l;have n3:w2.heap.size+1≤w3.heap.size:=(by have:=hb3.size;simpa using this);have Z1:=Lib.hid (Z1.out.mono hb3 (Nat.le_refl _));have Z2:=Lib.hid (Z2.out.mono hb3 (Nat.le_refl _));have R2:=Lib.hid (R2.out.below hb3 R2.out.lt);have B8:=Lib.hid (B8.out.below hb3 B8.out.lt);have B10:=Lib.hid (B10.out.below hb3 B10.out.lt);have KW:=Lib.hid (KW.out.trans (hb3.mono KW.out.size));have xR20:=R2.out.c0;have xR21:=R2.out.c1;have xR22:=R2.out.c2;have xR23:=R2.out.c3;have xR2f:=R2.out.f;have xR2l:=R2.out.lt;have xB80:=B8.out.c0;have xB81:=B8.out.c1;have xB8f:=B8.out.f;have xB8l:=B8.out.lt;have xB100:=B10.out.c0;have xB101:=B10.out.c1;have xB10f:=B10.out.f;have xB10l:=B10.out.lt))
   clear xR20 xR21 xR22 xR23 xR2f xR2l xB80 xB81 xB8f xB8l xB100 xB101 xB10f xB10l
   have KW:=Lib.hid (KW.out.alloc KW.out.size (Obj.cells #[.bool false,.slice a3 (nd D) c3] 57)).drew
   have Z1:=Lib.hid (Z1.out.alloc (Obj.cells #[.bool false,.slice a3 (nd D) c3] 57)).drew
   have Z2:=Lib.hid (Z2.out.alloc (Obj.cells #[.bool false,.slice a3 (nd D) c3] 57)).drew
   have Z3:=Lib.hid (Z3.out.alloc (Obj.cells #[.bool false,.slice a3 (nd D) c3] 57)).drew
   have R2:=Lib.hid (R2.out.alloc (Obj.cells #[.bool false,.slice a3 (nd D) c3] 57)).drew
   have B8:=Lib.hid (B8.out.alloc (Obj.cells #[.bool false,.slice a3 (nd D) c3] 57)).drew
   have B10:=Lib.hid (B10.out.alloc (Obj.cells #[.bool false,.slice a3 (nd D) c3] 57)).drew
   have B11:=Lib.hid (own2_new w3 w3.heap.size rfl (.bool false) (.slice a3 (nd D) c3) 57).drew
   have xR20:=R2.out.c0
   have xR21:=R2.out.c1
   have xR22:=R2.out.c2
   have xR23:=R2.out.c3
   have xR2f:=R2.out.f
   have xR2l:=R2.out.lt
   have xB80:=B8.out.c0
   have xB81:=B8.out.c1
   have xB8f:=B8.out.f
   have xB8l:=B8.out.lt
   have xB100:=B10.out.c0
   have xB101:=B10.out.c1
   have xB10f:=B10.out.f
   have xB10l:=B10.out.lt
   have xB110:=B11.out.c0
   have xB111:=B11.out.c1
   have xB11f:=B11.out.f
   have xB11l:=B11.out.lt
   have gg2:=sgZ_two H2.out
   have gg1:=sgZ_zero
   have gg3:=sgZ_0
   go_region_with (first
    | (go_at_call 86;have Y4:=Z4.out;clear Z4;(with_reducible refine (zcmp_any _ _ ((D:Nat):Int) ((2:Nat):Int) 1000 _ Z3.out Y4 (by decide)).mono ?_);rintro e w5 ⟨rfl,hb5⟩;clear Y4;clear xR20 xR21 xR22 xR23 xR2f xR2l xB80 xB81 xB8f xB8l xB100 xB101 xB10f xB10l xB110 xB111 xB11f xB11l;have Z1:=Lib.hid (Z1.out.mono hb5 (Nat.le_refl _));have Z2:=Lib.hid (Z2.out.mono hb5 (Nat.le_refl _));have Z3:=Lib.hid (Z3.out.mono hb5 (Nat.le_refl _));have R2:=Lib.hid (R2.out.below hb5 R2.out.lt);have B8:=Lib.hid (B8.out.below hb5 B8.out.lt);have B10:=Lib.hid (B10.out.below hb5 B10.out.lt);have B11:=Lib.hid (B11.out.below hb5 B11.out.lt);have KW:=Lib.hid (KW.out.trans (hb5.mono KW.out.size));have xR20:=R2.out.c0;have xR21:=R2.out.c1;have xR22:=R2.out.c2;have xR23:=R2.out.c3;have xR2f:=R2.out.f;have xR2l:=R2.out.lt;have xB80:=B8.out.c0;have xB81:=B8.out.c1;have xB8f:=B8.out.f;have xB8l:=B8.out.lt;have xB100:=B10.out.c0;have xB101:=B10.out.c1;have xB10f:=B10.out.f;have xB10l:=B10.out.lt;have xB110:=B11.out.c0;have xB111:=B11.out.c1;have xB11f:=B11.out.f;have xB11l:=B11.out.lt)
    | (go_at_call 79;(with_reducible refine (gcd_one _ _ N D 1000 _ Z1.out Z3.out (by decide) HG.out).mono ?_);rintro e w6 ⟨a6,c6,rfl,Z6,hb6⟩;clear xR20 xR21 xR22 xR23 xR2f xR2l xB80 xB81 xB8f xB8l xB100 xB101 xB10f xB10l xB110 xB111 xB11f xB11l;have Z1:=Lib.hid (Z1.out.mono hb6 (Nat.le_refl _));have Z2:=Lib.hid (Z2.out.mono hb6 (Nat.le_refl _));have Z3:=Lib.hid (Z3.out.mono hb6 (Nat.le_refl _));have R2:=Lib.hid (R2.out.below hb6 R2.out.lt);have B8:=Lib.hid (B8.out.below hb6 B8.out.lt);have B10:=Lib.hid (B10.out.below hb6 B10.out.lt);have B11:=Lib.hid (B11.out.below hb6 B11.out.lt);have KW:=Lib.hid (KW.out.trans (hb6.mono KW.out.size));have xR20:=R2.out.c0;have xR21:=R2.out.c1;have xR22:=R2.out.c2;have xR23:=R2.out.c3;have xR2f:=R2.out.f;have xR2l:=R2.out.lt;have xB80:=B8.out.c0;have xB81:=B8.out.c1;have xB8f:=B8.out.f;have xB8l:=B8.out.lt;have xB100:=B10.out.c0;have xB101:=B10.out.c1;have xB10f:=B10.out.f;have xB10l:=B10.out.lt;have xB110:=B11.out.c0;have xB111:=B11.out.c1;have xB11f:=B11.out.f;have xB11l:=B11.out.lt)
    | (go_at_call 86;(with_reducible refine (zcmp_any _ _ ((1:Nat):Int) ((1:Nat):Int) 1000 _ Z6.out Z7.out (by decide)).mono ?_);rintro e w8 ⟨rfl,hb8⟩;clear xR20 xR21 xR22 xR23 xR2f xR2l xB80 xB81 xB8f xB8l xB100 xB101 xB10f xB10l xB110 xB111 xB11f xB11l;have Z1:=Lib.hid (Z1.out.mono hb8 (Nat.le_refl _));have Z2:=Lib.hid (Z2.out.mono hb8 (Nat.le_refl _));have Z3:=Lib.hid (Z3.out.mono hb8 (Nat.le_refl _));have R2:=Lib.hid (R2.out.below hb8 R2.out.lt);have B8:=Lib.hid (B8.out.below hb8 B8.out.lt);have B10:=Lib.hid (B10.out.below hb8 B10.out.lt);have B11:=Lib.hid (B11.out.below hb8 B11.out.lt);have KW:=Lib.hid (KW.out.trans (hb8.mono KW.out.size));have xR20:=R2.out.c0;have xR21:=R2.out.c1;have xR22:=R2.out.c2;have xR23:=R2.out.c3;have xR2f:=R2.out.f;have xR2l:=R2.out.lt;have xB80:=B8.out.c0;have xB81:=B8.out.c1;have xB8f:=B8.out.f;have xB8l:=B8.out.lt;have xB100:=B10.out.c0;have xB101:=B10.out.c1;have xB10f:=B10.out.f;have xB10l:=B10.out.lt;have xB110:=B11.out.c0;have xB111:=B11.out.c1;have xB11f:=B11.out.f;have xB11l:=B11.out.lt)
    | (go_at_call 76;(with_reducible refine (zint_two _).mono ?_);rintro e w4 ⟨a4,c4,rfl,Z4,hb4⟩;clear xR20 xR21 xR22 xR23 xR2f xR2l xB80 xB81 xB8f xB8l xB100 xB101 xB10f xB10l xB110 xB111 xB11f xB11l;have Z1:=Lib.hid (Z1.out.mono hb4 (Nat.le_refl _));have Z2:=Lib.hid (Z2.out.mono hb4 (Nat.le_refl _));have Z3:=Lib.hid (Z3.out.mono hb4 (Nat.le_refl _));have R2:=Lib.hid (R2.out.below hb4 R2.out.lt);have B8:=Lib.hid (B8.out.below hb4 B8.out.lt);have B10:=Lib.hid (B10.out.below hb4 B10.out.lt);have B11:=Lib.hid (B11.out.below hb4 B11.out.lt);have KW:=Lib.hid (KW.out.trans (hb4.mono KW.out.size));have xR20:=R2.out.c0;have xR21:=R2.out.c1;have xR22:=R2.out.c2;have xR23:=R2.out.c3;have xR2f:=R2.out.f;have xR2l:=R2.out.lt;have xB80:=B8.out.c0;have xB81:=B8.out.c1;have xB8f:=B8.out.f;have xB8l:=B8.out.lt;have xB100:=B10.out.c0;have xB101:=B10.out.c1;have xB10f:=B10.out.f;have xB10l:=B10.out.lt;have xB110:=B11.out.c0;have xB111:=B11.out.c1;have xB11f:=B11.out.f;have xB11l:=B11.out.lt)
    | (go_at_call 76;have TK:=Z6;clear TK;(with_reducible refine (zint_one _).mono ?_);rintro e w7 ⟨a7,c7,rfl,Z7,hb7⟩;clear xR20 xR21 xR22 xR23 xR2f xR2l xB80 xB81 xB8f xB8l xB100 xB101 xB10f xB10l xB110 xB111 xB11f xB11l;have Z1:=Lib.hid (Z1.out.mono hb7 (Nat.le_refl _));have Z2:=Lib.hid (Z2.out.mono hb7 (Nat.le_refl _));have Z3:=Lib.hid (Z3.out.mono hb7 (Nat.le_refl _));have Z6:=Lib.hid (Z6.out.mono hb7 (Nat.le_refl _));have R2:=Lib.hid (R2.out.below hb7 R2.out.lt);have B8:=Lib.hid (B8.out.below hb7 B8.out.lt);have B10:=Lib.hid (B10.out.below hb7 B10.out.lt);have B11:=Lib.hid (B11.out.below hb7 B11.out.lt);have KW:=Lib.hid (KW.out.trans (hb7.mono KW.out.size));have xR20:=R2.out.c0;have xR21:=R2.out.c1;have xR22:=R2.out.c2;have xR23:=R2.out.c3;have xR2f:=R2.out.f;have xR2l:=R2.out.lt;have xB80:=B8.out.c0;have xB81:=B8.out.c1;have xB8f:=B8.out.f;have xB8l:=B8.out.lt;have xB100:=B10.out.c0;have xB101:=B10.out.c1;have xB10f:=B10.out.f;have xB10l:=B10.out.lt;have xB110:=B11.out.c0;have xB111:=B11.out.c1;have xB11f:=B11.out.f;have xB11l:=B11.out.lt))
   all_goals
    go_wp2_with fail
    have Z1:=Lib.hid (Z1.out.off2 B10.out (noInt_bool _) (noInt_slice _ _ _) (.bool false) (.slice a3 (nd D) c3))
    have Z3:=Lib.hid (Z3.out.off2 B10.out (noInt_bool _) (noInt_slice _ _ _) (.bool false) (.slice a3 (nd D) c3))
    have B8:=Lib.hid (B8.out.off2 (b':=w2.heap.size) (by omega) (.bool false) (.slice a3 (nd D) c3))
    have R2:=Lib.hid ((R2.out.setCell w2.heap.size 0 (.bool false) (by omega)).setCell w2.heap.size 1 (.slice a3 (nd D) c3) (by omega))
    have B10:=Lib.hid (B10.out.anew2 (.bool false) (.slice a3 (nd D) c3))
    have KW:=Lib.hid ((KW.out.setCell (p:=⟨w2.heap.size,0,none⟩) (show w.heap.size≤w2.heap.size by omega) (.bool false)).setCell (p:=⟨w2.heap.size,1,none⟩) (show w.heap.size≤w2.heap.size by omega) (.slice a3 (nd D) c3))
    refine (zneg_any _ _ _ _ Z1.out).mono ?_
    rintro e w9 ⟨r9,rfl,hr9,hb9⟩
    obtain⟨s9,a9,n9,c9,rfl,Z9⟩:=hr9.shape
    clear hr9
    clear xR20 xR21 xR22 xR23 xR2f xR2l xB80 xB81 xB8f xB8l xB100 xB101 xB10f xB10l xB110 xB111 xB11f xB11l
    have Z3:=Lib.hid (Z3.out.mono hb9 (Nat.le_refl _))
    have R2:=Lib.hid (R2.out.below hb9 R2.out.lt)
    have B8:=Lib.hid (B8.out.below hb9 B8.out.lt)
    have B10:=Lib.hid (B10.out.below hb9 B10.out.lt)
    have KW:=Lib.hid (KW.out.trans (hb9.mono KW.out.size))
    have xR20:=R2.out.c0
    have xR21:=R2.out.c1
    have xR22:=R2.out.c2
    have xR23:=R2.out.c3
    have xR2f:=R2.out.f
    have xR2l:=R2.out.lt
    have xB80:=B8.out.c0
    have xB81:=B8.out.c1
    have xB8f:=B8.out.f
    have xB8l:=B8.out.lt
    have xB100:=B10.out.c0
    have xB101:=B10.out.c1
    have xB10f:=B10.out.f
    have xB10l:=B10.out.lt
    go_wp2
    refine bodyPost_ret (v:=.tuple #[.agg #[.bool s9,.slice a9 n9 c9,.bool false,.slice a3 (nd D) c3],.bool true]) (by simp [results,Tryz.results126,go_sem,xR20,xR21,xR22,xR23,xR2f,xR2l,n1]) rfl ?_
    have R3:=(R2.out.setCell w1.heap.size 0 (.bool s9) (by omega)).setCell w1.heap.size 1 (.slice a9 n9 c9) (by omega)
    exact⟨_,rfl,⟨_,_,_,_,rfl,(Z9.out.off2 B8.out (noInt_bool _) (noInt_slice _ _ _) _ _).store4 R3 _ _ _ _,(Z3.out.off2 B8.out (noInt_bool _) (noInt_slice _ _ _) _ _).store4 R3 _ _ _ _,(by have:=H2.out;omega)⟩,below_set4q ((KW.out.setCell (p:=⟨w1.heap.size,0,none⟩) (show w.heap.size≤w1.heap.size by omega) _).setCell (p:=⟨w1.heap.size,1,none⟩) (show w.heap.size≤w1.heap.size by omega) _) (Nat.le_refl _) _ _ _ _⟩
set_option maxHeartbeats 8000000 in
set_option maxRecDepth 100000 in
theorem parse_mn (s s1 h1:ByteArray) (f g1:Nat→Nat) (sl N:Nat) (w:World)
  (hlong:s.size≤8002) (hp:0<s.size) (x0:s[0].toNat=45) (es:s.extract 1 s.size=s1) (hs1:Bts s1 s1.size f) (hsl:slD f s1.size s1.size=sl) (eh:s1.extract 0 sl=h1) (bh:Bts h1 sl g1) (oh:okD sl g1) (hN:numD sl g1=N) (hlt:¬ sl<s1.size) (hN0:0<N) :
  Calls Tryz.prog 126 #[.string s] w fun e w'=>∃ r,e = .returned (.tuple #[r,.bool true])∧QIs w' r (-((N:Nat):Int)) 1 1000∧Below w.heap.size w w':=by
 have hle:=slD_le f s1.size s1.size
 rw [hsl] at hle
 have HB:=Lib.hid hs1.2
 have HSL:=Lib.hid hsl
 have BH:=Lib.hid bh
 have OH:=Lib.hid oh
 have HN:=Lib.hid hN
 have R2:=Lib.hid (own4_new w w.heap.size rfl (.bool false) (.slice none 0 0) (.bool false) (.slice none 0 0) 59)
 have KW:=Lib.hid (boxes1 w (.cells #[.bool false,.slice none 0 0,.bool false,.slice none 0 0] 59))
 have dl:decide ((8002:Int)<(s.size:Int))=false:=by simp;omega
 have dl2:decide (8002<s.size)=false:=by simp;omega
 have ls:s1.size≤8002:=by rw [←es,ByteArray.size_extract];omega
 have HN0:=Lib.hid hN0
 have hp2:(0:Int)<(s.size:Int):=by omega
 have hp3:(1:Int)≤(s.size:Int):=by omega
 have hp4:1≤s.size:=by omega
 clear hN0
 clear hs1 hsl bh oh hN hlong
 go_enter Tryz.func126,Tryz.ntmps126
 go_wp2
 go_loop [6,7] (fun v6 v7=>∃ j q:Nat,j≤s1.size∧v7 = .int .i64 ((s1.size:Int) - 1 - ((j:Nat):Int))∧v6 = .int .i64 ((q:Nat):Int)∧Hid (q=slD f s1.size j)) (fun v6 v7=>(intOf v7+1).toNat)
 case atStart=>exact⟨0,s1.size,Nat.zero_le _,by simp,rfl,Lib.hid rfl⟩
 case round=>
  obtain⟨j,q,hj,rfl,rfl,HQ⟩:=hrel
  by_cases hj0:j<s1.size
  ·obtain⟨i,hi⟩:∃ i,i=s1.size - (j+1):=⟨_,rfl⟩
   have hi2:(s1.size:Int) - 1 - ((j:Nat):Int)=((i:Nat):Int):=by omega
   have hiL:i<s1.size:=by omega
   rw [hi2]
   have q0:decide ((0:Int)≤((i:Nat):Int))=true:=by simp
   have q1:((i:Nat):Int)<(s1.size:Int):=by omega
   have xi:=HB.out i hiL
   obtain⟨c,hc⟩:∃ c,c=f i:=⟨_,rfl⟩
   rw [←hc] at xi
   have HI:=Lib.hid hi
   have HI2:=Lib.hid hi2
   have HJ:=Lib.hid hj0
   clear hi hi2 hj0
   by_cases h47:c=47
   ·have e47:(((c:Nat):Int) == 47)=true:=by simp;omega
    have HQ2:Hid (i=slD f s1.size (j+1)):=Lib.hid (by simp only [slD];rw [←HI.out,←hc,if_pos h47])
    clear h47 hc
    go_wp2
    go_round
    case rel=>exact⟨j+1,i,by have:=HJ.out;omega,by have:=HI2.out;go_num,rfl,HQ2⟩
    case measure=>simp [intOf]
   ·have e47:(((c:Nat):Int) == 47)=false:=by simp;omega
    have HQ2:Hid (q=slD f s1.size (j+1)):=Lib.hid (by simp only [slD];rw [←HI.out,←hc,if_neg h47];exact HQ.out)
    clear h47 hc
    go_wp2
    go_round
    case rel=>exact⟨j+1,q,by have:=HJ.out;omega,by have:=HI2.out;go_num,rfl,HQ2⟩
    case measure=>simp [intOf]
  ·obtain rfl:j=s1.size:=by omega
   have q0:(s1.size:Int) - 1 - ((s1.size:Nat):Int) = -1:=by omega
   rw [q0]
   obtain rfl:sl=q:=(HQ.out.trans HSL.out).symm
   have l0:((sl:Nat):Int)≤(s1.size:Int):=by omega
   have l1:decide (((sl:Nat):Int)<(s1.size:Int))=false:=by simp;omega
   have l1':decide (sl<s1.size)=false:=by simp;omega
   clear hj hj0 q0 HQ HSL hle hlt
   have hnz:=(nd_pos N).2 HN0.out
   have dz1:(((nd N:Nat):Int) == 0)=false:=by simp;omega
   have dz2:(nd N == 0)=false:=by simp;omega
   have dz3:¬ nd N=0:=by omega
   clear hnz
   have T1:=Lib.hid True.intro
   have xR20:=R2.out.c0
   have xR21:=R2.out.c1
   have xR22:=R2.out.c2
   have xR23:=R2.out.c3
   have xR2f:=R2.out.f
   have xR2l:=R2.out.lt
   go_wp2_with (first
    | (go_at_call 152;have B1:=BH.out;have O1:=OH.out;have N1:=HN.out;clear BH OH HN;(with_reducible refine (digits_yes _ sl g1 N _ B1 O1 N1).mono ?_);rintro e w1 ⟨a1,c1,rfl,Z1,hb1⟩;clear xR20 xR21 xR22 xR23 xR2f xR2l;have n1:w.heap.size+1≤w1.heap.size:=(by have:=hb1.size;simpa using this);have R2:=Lib.hid (R2.out.below hb1 R2.out.lt);have KW:=Lib.hid (KW.out.trans (hb1.mono KW.out.size));have xR20:=R2.out.c0;have xR21:=R2.out.c1;have xR22:=R2.out.c2;have xR23:=R2.out.c3;have xR2f:=R2.out.f;have xR2l:=R2.out.lt)
    | (go_at_call 76;have Z1:=Lib.hid (Z1.out.alloc (Obj.cells #[.bool false,.slice a1 (nd N) c1] 57));have R2:=Lib.hid (R2.out.alloc (Obj.cells #[.bool false,.slice a1 (nd N) c1] 57));have KW:=Lib.hid (KW.out.alloc KW.out.size (Obj.cells #[.bool false,.slice a1 (nd N) c1] 57));have B8:=Lib.hid (own2_new w1 w1.heap.size rfl (.bool false) (.slice a1 (nd N) c1) 57);have TK:=T1.out;clear T1 TK;(with_reducible refine (zint_one _).mono ?_);rintro e w2 ⟨a2,c2,rfl,Z2,hb2⟩;clear xR20 xR21 xR22 xR23 xR2f xR2l;have n2:w1.heap.size+1≤w2.heap.size:=(by have:=hb2.size;simpa using this);have Z1:=Lib.hid (Z1.out.mono hb2 (Nat.le_refl _));have R2:=Lib.hid (R2.out.below hb2 R2.out.lt);have B8:=Lib.hid (B8.out.below hb2 B8.out.lt);have KW:=Lib.hid (KW.out.trans (hb2.mono KW.out.size));have xR20:=R2.out.c0;have xR21:=R2.out.c1;have xR22:=R2.out.c2;have xR23:=R2.out.c3;have xR2f:=R2.out.f;have xR2l:=R2.out.lt;have xB80:=B8.out.c0;have xB81:=B8.out.c1;have xB8f:=B8.out.f;have xB8l:=B8.out.lt))
   all_goals
    have Z1:=Lib.hid (Z1.out.alloc (Obj.cells #[.bool false,.slice a2 (nd 1) c2] 57))
    have Z2:=Lib.hid (Z2.out.alloc (Obj.cells #[.bool false,.slice a2 (nd 1) c2] 57))
    have R2:=Lib.hid (R2.out.alloc (Obj.cells #[.bool false,.slice a2 (nd 1) c2] 57))
    have B8:=Lib.hid (B8.out.alloc (Obj.cells #[.bool false,.slice a2 (nd 1) c2] 57))
    have KW:=Lib.hid (KW.out.alloc KW.out.size (Obj.cells #[.bool false,.slice a2 (nd 1) c2] 57))
    have B10:=Lib.hid (own2_new w2 w2.heap.size rfl (.bool false) (.slice a2 (nd 1) c2) 57)
    refine (zneg_any _ _ _ _ Z1.out).mono ?_
    rintro e w9 ⟨r9,rfl,hr9,hb9⟩
    obtain⟨s9,a9,n9,c9,rfl,Z9⟩:=hr9.shape
    clear hr9
    clear xR20 xR21 xR22 xR23 xR2f xR2l xB80 xB81 xB8f xB8l
    have Z2:=Lib.hid (Z2.out.mono hb9 (Nat.le_refl _))
    have R2:=Lib.hid (R2.out.below hb9 R2.out.lt)
    have B8:=Lib.hid (B8.out.below hb9 B8.out.lt)
    have B10:=Lib.hid (B10.out.below hb9 B10.out.lt)
    have KW:=Lib.hid (KW.out.trans (hb9.mono KW.out.size))
    have xR20:=R2.out.c0
    have xR21:=R2.out.c1
    have xR22:=R2.out.c2
    have xR23:=R2.out.c3
    have xR2f:=R2.out.f
    have xR2l:=R2.out.lt
    have xB80:=B8.out.c0
    have xB81:=B8.out.c1
    have xB8f:=B8.out.f
    have xB8l:=B8.out.lt
    have xB100:=B10.out.c0
    have xB101:=B10.out.c1
    have xB10f:=B10.out.f
    have xB10l:=B10.out.lt
    go_wp2
    refine bodyPost_ret (v:=.tuple #[.agg #[.bool s9,.slice a9 n9 c9,.bool false,.slice a2 (nd 1) c2],.bool true]) (by simp [results,Tryz.results126,go_sem,xR20,xR21,xR22,xR23,xR2f,xR2l,n1]) rfl ?_
    have R3:=(R2.out.setCell w1.heap.size 0 (.bool s9) (by omega)).setCell w1.heap.size 1 (.slice a9 n9 c9) (by omega)
    exact⟨_,rfl,⟨_,_,_,_,rfl,(Z9.out.off2 B8.out (noInt_bool _) (noInt_slice _ _ _) _ _).store4 R3 _ _ _ _,(Z2.out.off2 B8.out (noInt_bool _) (noInt_slice _ _ _) _ _).store4 R3 _ _ _ _,(by decide)⟩,below_set4q ((KW.out.setCell (p:=⟨w1.heap.size,0,none⟩) (show w.heap.size≤w1.heap.size by omega) _).setCell (p:=⟨w1.heap.size,1,none⟩) (show w.heap.size≤w1.heap.size by omega) _) (Nat.le_refl _) _ _ _ _⟩
set_option maxHeartbeats 8000000 in
set_option maxRecDepth 100000 in
theorem parse_ps (s h1 t1:ByteArray) (f g1 g2:Nat→Nat) (sl N m D:Nat) (w:World)
  (hlong:s.size≤8002) (hm:(hp:0<s.size)→s[0].toNat≠45) (hs1:Bts s s.size f) (hsl:slD f s.size s.size=sl) (eh:s.extract 0 sl=h1) (bh:Bts h1 sl g1) (oh:okD sl g1) (hN:numD sl g1=N) (hlt:sl<s.size) (et:s.extract (sl+1) s.size=t1) (bt:Bts t1 m g2) (ot:okD m g2) (hD:numD m g2=D) (h2:2≤D) (hg:Nat.gcd N D=1)  :
  Calls Tryz.prog 126 #[.string s] w fun e w'=>∃ r,e = .returned (.tuple #[r,.bool true])∧QIs w' r ((N:Nat):Int) ((D:Nat):Int) 1000∧Below w.heap.size w w':=by
 have hle:=slD_le f s.size s.size
 rw [hsl] at hle
 have HB:=Lib.hid hs1.2
 have HSL:=Lib.hid hsl
 have BH:=Lib.hid bh
 have OH:=Lib.hid oh
 have HN:=Lib.hid hN
 have R2:=Lib.hid (own4_new w w.heap.size rfl (.bool false) (.slice none 0 0) (.bool false) (.slice none 0 0) 59)
 have KW:=Lib.hid (boxes1 w (.cells #[.bool false,.slice none 0 0,.bool false,.slice none 0 0] 59))
 have dl:decide ((8002:Int)<(s.size:Int))=false:=by simp;omega
 have dl2:decide (8002<s.size)=false:=by simp;omega
 have ls:s.size≤8002:=by exact hlong
 have BT:=Lib.hid bt
 have OT:=Lib.hid ot
 have HD:=Lib.hid hD
 have H2:=Lib.hid h2
 have HG:=Lib.hid hg
 clear bt ot hD hg
 clear hs1 hsl bh oh hN hlong
 rcases Nat.eq_zero_or_pos s.size with hz | hp
 ·exfalso
  have:=OH.out.1
  omega
 ·have x0:=hm hp
  have hp2:(0:Int)<(s.size:Int):=by omega
  obtain⟨c,hc⟩:∃ c,s[0].toNat=c:=⟨_,rfl⟩
  rw [hc] at x0
  have e0:(((c:Nat):Int) == 45)=false:=by simp;omega
  clear hm x0
  go_enter Tryz.func126,Tryz.ntmps126
  go_wp2
  go_loop [6,7] (fun v6 v7=>∃ j q:Nat,j≤s.size∧v7 = .int .i64 ((s.size:Int) - 1 - ((j:Nat):Int))∧v6 = .int .i64 ((q:Nat):Int)∧Hid (q=slD f s.size j)) (fun v6 v7=>(intOf v7+1).toNat)
  case atStart=>exact⟨0,s.size,Nat.zero_le _,by simp,rfl,Lib.hid rfl⟩
  case round=>
   obtain⟨j,q,hj,rfl,rfl,HQ⟩:=hrel
   by_cases hj0:j<s.size
   ·obtain⟨i,hi⟩:∃ i,i=s.size - (j+1):=⟨_,rfl⟩
    have hi2:(s.size:Int) - 1 - ((j:Nat):Int)=((i:Nat):Int):=by omega
    have hiL:i<s.size:=by omega
    rw [hi2]
    have q0:decide ((0:Int)≤((i:Nat):Int))=true:=by simp
    have q1:((i:Nat):Int)<(s.size:Int):=by omega
    have xi:=HB.out i hiL
    obtain⟨c,hc⟩:∃ c,c=f i:=⟨_,rfl⟩
    rw [←hc] at xi
    have HI:=Lib.hid hi
    have HI2:=Lib.hid hi2
    have HJ:=Lib.hid hj0
    clear hi hi2 hj0
    by_cases h47:c=47
    ·have e47:(((c:Nat):Int) == 47)=true:=by simp;omega
     have HQ2:Hid (i=slD f s.size (j+1)):=Lib.hid (by simp only [slD];rw [←HI.out,←hc,if_pos h47])
     clear h47 hc
     go_wp2
     go_round
     case rel=>exact⟨j+1,i,by have:=HJ.out;omega,by have:=HI2.out;go_num,rfl,HQ2⟩
     case measure=>simp [intOf]
    ·have e47:(((c:Nat):Int) == 47)=false:=by simp;omega
     have HQ2:Hid (q=slD f s.size (j+1)):=Lib.hid (by simp only [slD];rw [←HI.out,←hc,if_neg h47];exact HQ.out)
     clear h47 hc
     go_wp2
     go_round
     case rel=>exact⟨j+1,q,by have:=HJ.out;omega,by have:=HI2.out;go_num,rfl,HQ2⟩
     case measure=>simp [intOf]
   ·obtain rfl:j=s.size:=by omega
    have q0:(s.size:Int) - 1 - ((s.size:Nat):Int) = -1:=by omega
    rw [q0]
    obtain rfl:sl=q:=(HQ.out.trans HSL.out).symm
    have l0:((sl:Nat):Int)≤(s.size:Int):=by omega
    have l1:decide (((sl:Nat):Int)<(s.size:Int))=true:=by simp;omega
    have l1':decide (sl<s.size)=true:=by simp;omega
    have l2:(0:Int)≤((sl:Nat):Int)+1:=by omega
    have l3:((sl:Nat):Int)+1≤(s.size:Int):=by omega
    have l4:(((sl:Nat):Int)+1).toNat=sl+1:=by omega
    clear hj hj0 q0 HQ HSL hle hlt
    have T1:=Lib.hid True.intro
    have xR20:=R2.out.c0
    have xR21:=R2.out.c1
    have xR22:=R2.out.c2
    have xR23:=R2.out.c3
    have xR2f:=R2.out.f
    have xR2l:=R2.out.lt
    go_wp2_with (first
     | (go_at_call 152;have B1:=BH.out;have O1:=OH.out;have N1:=HN.out;clear BH OH HN;(with_reducible refine (digits_yes _ sl g1 N _ B1 O1 N1).mono ?_);rintro e w1 ⟨a1,c1,rfl,Z1,hb1⟩;clear xR20 xR21 xR22 xR23 xR2f xR2l;have n1:w.heap.size+1≤w1.heap.size:=(by have:=hb1.size;simpa using this);have R2:=Lib.hid (R2.out.below hb1 R2.out.lt);have KW:=Lib.hid (KW.out.trans (hb1.mono KW.out.size));have xR20:=R2.out.c0;have xR21:=R2.out.c1;have xR22:=R2.out.c2;have xR23:=R2.out.c3;have xR2f:=R2.out.f;have xR2l:=R2.out.lt)
     | (go_at_call 76;have Z1:=Lib.hid (Z1.out.alloc (Obj.cells #[.bool false,.slice a1 (nd N) c1] 57));have R2:=Lib.hid (R2.out.alloc (Obj.cells #[.bool false,.slice a1 (nd N) c1] 57));have KW:=Lib.hid (KW.out.alloc KW.out.size (Obj.cells #[.bool false,.slice a1 (nd N) c1] 57));have B8:=Lib.hid (own2_new w1 w1.heap.size rfl (.bool false) (.slice a1 (nd N) c1) 57);have TK:=T1.out;clear T1 TK;(with_reducible refine (zint_one _).mono ?_);rintro e w2 ⟨a2,c2,rfl,Z2,hb2⟩;clear xR20 xR21 xR22 xR23 xR2f xR2l;have n2:w1.heap.size+1≤w2.heap.size:=(by have:=hb2.size;simpa using this);have Z1:=Lib.hid (Z1.out.mono hb2 (Nat.le_refl _));have R2:=Lib.hid (R2.out.below hb2 R2.out.lt);have B8:=Lib.hid (B8.out.below hb2 B8.out.lt);have KW:=Lib.hid (KW.out.trans (hb2.mono KW.out.size));have xR20:=R2.out.c0;have xR21:=R2.out.c1;have xR22:=R2.out.c2;have xR23:=R2.out.c3;have xR2f:=R2.out.f;have xR2l:=R2.out.lt;have xB80:=B8.out.c0;have xB81:=B8.out.c1;have xB8f:=B8.out.f;have xB8l:=B8.out.lt)
     | (go_at_call 152;have B2:=BT.out;have O2:=OT.out;have N2:=HD.out;clear BT OT HD;have Z1:=Lib.hid (Z1.out.alloc (Obj.cells #[.bool false,.slice a2 (nd 1) c2] 57));have Z2:=Lib.hid (Z2.out.alloc (Obj.cells #[.bool false,.slice a2 (nd 1) c2] 57));have R2:=Lib.hid (R2.out.alloc (Obj.cells #[.bool false,.slice a2 (nd 1) c2] 57));have B8:=Lib.hid (B8.out.alloc (Obj.cells #[.bool false,.slice a2 (nd 1) c2] 57));have KW:=Lib.hid (KW.out.alloc KW.out.size (Obj.cells #[.bool false,.slice a2 (nd 1) c2] 57));have B10:=Lib.hid (own2_new w2 w2.heap.size rfl (.bool false) (.slice a2 (nd 1) c2) 57);(with_reducible refine (digits_yes _ m g2 D _ B2 O2 N2).mono ?_);rintro e w3 ⟨a3,c3,rfl,Z3,hb3⟩;clear xR20 xR21 xR22 xR23 xR2f xR2l xB80 xB81 xB8f xB8l;have n3:w2.heap.size+1≤w3.heap.size:=(by have:=hb3.size;simpa using this);have Z1:=Lib.hid (Z1.out.mono hb3 (Nat.le_refl _));have Z2:=Lib.hid (Z2.out.mono hb3 (Nat.le_refl _));have R2:=Lib.hid (R2.out.below hb3 R2.out.lt);have B8:=Lib.hid (B8.out.below hb3 B8.out.lt);have B10:=Lib.hid (B10.out.below hb3 B10.out.lt);have KW:=Lib.hid (KW.out.trans (hb3.mono KW.out.size));have xR20:=R2.out.c0;have xR21:=R2.out.c1;have xR22:=R2.out.c2;have xR23:=R2.out.c3;have xR2f:=R2.out.f;have xR2l:=R2.out.lt;have xB80:=B8.out.c0;have xB81:=B8.out.c1;have xB8f:=B8.out.f;have xB8l:=B8.out.lt;have xB100:=B10.out.c0;have xB101:=B10.out.c1;have xB10f:=B10.out.f;have xB10l:=B10.out.lt))
    clear xR20 xR21 xR22 xR23 xR2f xR2l xB80 xB81 xB8f xB8l xB100 xB101 xB10f xB10l
    have KW:=Lib.hid (KW.out.alloc KW.out.size (Obj.cells #[.bool false,.slice a3 (nd D) c3] 57)).drew
    have Z1:=Lib.hid (Z1.out.alloc (Obj.cells #[.bool false,.slice a3 (nd D) c3] 57)).drew
    have Z2:=Lib.hid (Z2.out.alloc (Obj.cells #[.bool false,.slice a3 (nd D) c3] 57)).drew
    have Z3:=Lib.hid (Z3.out.alloc (Obj.cells #[.bool false,.slice a3 (nd D) c3] 57)).drew
    have R2:=Lib.hid (R2.out.alloc (Obj.cells #[.bool false,.slice a3 (nd D) c3] 57)).drew
    have B8:=Lib.hid (B8.out.alloc (Obj.cells #[.bool false,.slice a3 (nd D) c3] 57)).drew
    have B10:=Lib.hid (B10.out.alloc (Obj.cells #[.bool false,.slice a3 (nd D) c3] 57)).drew
    have B11:=Lib.hid (own2_new w3 w3.heap.size rfl (.bool false) (.slice a3 (nd D) c3) 57).drew
    have xR20:=R2.out.c0
    have xR21:=R2.out.c1
    have xR22:=R2.out.c2
    have xR23:=R2.out.c3
    have xR2f:=R2.out.f
    have xR2l:=R2.out.lt
    have xB80:=B8.out.c0
    have xB81:=B8.out.c1
    have xB8f:=B8.out.f
    have xB8l:=B8.out.lt
    have xB100:=B10.out.c0
    have xB101:=B10.out.c1
    have xB10f:=B10.out.f
    have xB10l:=B10.out.lt
    have xB110:=B11.out.c0
    have xB111:=B11.out.c1
    have xB11f:=B11.out.f
    have xB11l:=B11.out.lt
    have gg2:=sgZ_two H2.out
    have gg1:=sgZ_zero
    have gg3:=sgZ_0
    go_region_with (first
     | (go_at_call 86;have Y4:=Z4.out;clear Z4;(with_reducible refine (zcmp_any _ _ ((D:Nat):Int) ((2:Nat):Int) 1000 _ Z3.out Y4 (by decide)).mono ?_);rintro e w5 ⟨rfl,hb5⟩;clear Y4;clear xR20 xR21 xR22 xR23 xR2f xR2l xB80 xB81 xB8f xB8l xB100 xB101 xB10f xB10l xB110 xB111 xB11f xB11l;have Z1:=Lib.hid (Z1.out.mono hb5 (Nat.le_refl _));have Z2:=Lib.hid (Z2.out.mono hb5 (Nat.le_refl _));have Z3:=Lib.hid (Z3.out.mono hb5 (Nat.le_refl _));have R2:=Lib.hid (R2.out.below hb5 R2.out.lt);have B8:=Lib.hid (B8.out.below hb5 B8.out.lt);have B10:=Lib.hid (B10.out.below hb5 B10.out.lt);have B11:=Lib.hid (B11.out.below hb5 B11.out.lt);have KW:=Lib.hid (KW.out.trans (hb5.mono KW.out.size));have xR20:=R2.out.c0;have xR21:=R2.out.c1;have xR22:=R2.out.c2;have xR23:=R2.out.c3;have xR2f:=R2.out.f;have xR2l:=R2.out.lt;have xB80:=B8.out.c0;have xB81:=B8.out.c1;have xB8f:=B8.out.f;have xB8l:=B8.out.lt;have xB100:=B10.out.c0;have xB101:=B10.out.c1;have xB10f:=B10.out.f;have xB10l:=B10.out.lt;have xB110:=B11.out.c0;have xB111:=B11.out.c1;have xB11f:=B11.out.f;have xB11l:=B11.out.lt)
     | (go_at_call 79;(with_reducible refine (gcd_one _ _ N D 1000 _ Z1.out Z3.out (by decide) HG.out).mono ?_);rintro e w6 ⟨a6,c6,rfl,Z6,hb6⟩;clear xR20 xR21 xR22 xR23 xR2f xR2l xB80 xB81 xB8f xB8l xB100 xB101 xB10f xB10l xB110 xB111 xB11f xB11l;have Z1:=Lib.hid (Z1.out.mono hb6 (Nat.le_refl _));have Z2:=Lib.hid (Z2.out.mono hb6 (Nat.le_refl _));have Z3:=Lib.hid (Z3.out.mono hb6 (Nat.le_refl _));have R2:=Lib.hid (R2.out.below hb6 R2.out.lt);have B8:=Lib.hid (B8.out.below hb6 B8.out.lt);have B10:=Lib.hid (B10.out.below hb6 B10.out.lt);have B11:=Lib.hid (B11.out.below hb6 B11.out.lt);have KW:=Lib.hid (KW.out.trans (hb6.mono KW.out.size));have xR20:=R2.out.c0;have xR21:=R2.out.c1;have xR22:=R2.out.c2;have xR23:=R2.out.c3;have xR2f:=R2.out.f;have xR2l:=R2.out.lt;have xB80:=B8.out.c0;have xB81:=B8.out.c1;have xB8f:=B8.out.f;have xB8l:=B8.out.lt;have xB100:=B10.out.c0;have xB101:=B10.out.c1;have xB10f:=B10.out.f;have xB10l:=B10.out.lt;have xB110:=B11.out.c0;have xB111:=B11.out.c1;have xB11f:=B11.out.f;have xB11l:=B11.out.lt)
     | (go_at_call 86;(with_reducible refine (zcmp_any _ _ ((1:Nat):Int) ((1:Nat):Int) 1000 _ Z6.out Z7.out (by decide)).mono ?_);rintro e w8 ⟨rfl,hb8⟩;clear xR20 xR21 xR22 xR23 xR2f xR2l xB80 xB81 xB8f xB8l xB100 xB101 xB10f xB10l xB110 xB111 xB11f xB11l;have Z1:=Lib.hid (Z1.out.mono hb8 (Nat.le_refl _));have Z2:=Lib.hid (Z2.out.mono hb8 (Nat.le_refl _));have Z3:=Lib.hid (Z3.out.mono hb8 (Nat.le_refl _));have R2:=Lib.hid (R2.out.below hb8 R2.out.lt);have B8:=Lib.hid (B8.out.below hb8 B8.out.lt);have B10:=Lib.hid (B10.out.below hb8 B10.out.lt);have B11:=Lib.hid (B11.out.below hb8 B11.out.lt);have KW:=Lib.hid (KW.out.trans (hb8.mono KW.out.size));have xR20:=R2.out.c0;have xR21:=R2.out.c1;have xR22:=R2.out.c2;have xR23:=R2.out.c3;have xR2f:=R2.out.f;have xR2l:=R2.out.lt;have xB80:=B8.out.c0;have xB81:=B8.out.c1;have xB8f:=B8.out.f;have xB8l:=B8.out.lt;have xB100:=B10.out.c0;have xB101:=B10.out.c1;have xB10f:=B10.out.f;have xB10l:=B10.out.lt;have xB110:=B11.out.c0;have xB111:=B11.out.c1;have xB11f:=B11.out.f;have xB11l:=B11.out.lt)
     | (go_at_call 76;(with_reducible refine (zint_two _).mono ?_);rintro e w4 ⟨a4,c4,rfl,Z4,hb4⟩;clear xR20 xR21 xR22 xR23 xR2f xR2l xB80 xB81 xB8f xB8l xB100 xB101 xB10f xB10l xB110 xB111 xB11f xB11l;have Z1:=Lib.hid (Z1.out.mono hb4 (Nat.le_refl _));have Z2:=Lib.hid (Z2.out.mono hb4 (Nat.le_refl _));have Z3:=Lib.hid (Z3.out.mono hb4 (Nat.le_refl _));have R2:=Lib.hid (R2.out.below hb4 R2.out.lt);have B8:=Lib.hid (B8.out.below hb4 B8.out.lt);have B10:=Lib.hid (B10.out.below hb4 B10.out.lt);have B11:=Lib.hid (B11.out.below hb4 B11.out.lt);have KW:=Lib.hid (KW.out.trans (hb4.mono KW.out.size));have xR20:=R2.out.c0;have xR21:=R2.out.c1;have xR22:=R2.out.c2;have xR23:=R2.out.c3;have xR2f:=R2.out.f;have xR2l:=R2.out.lt;have xB80:=B8.out.c0;have xB81:=B8.out.c1;have xB8f:=B8.out.f;have xB8l:=B8.out.lt;have xB100:=B10.out.c0;have xB101:=B10.out.c1;have xB10f:=B10.out.f;have xB10l:=B10.out.lt;have xB110:=B11.out.c0;have xB111:=B11.out.c1;have xB11f:=B11.out.f;have xB11l:=B11.out.lt)
     | (go_at_call 76;have TK:=Z6;clear TK;(with_reducible refine (zint_one _).mono ?_);rintro e w7 ⟨a7,c7,rfl,Z7,hb7⟩;clear xR20 xR21 xR22 xR23 xR2f xR2l xB80 xB81 xB8f xB8l xB100 xB101 xB10f xB10l xB110 xB111 xB11f xB11l;have Z1:=Lib.hid (Z1.out.mono hb7 (Nat.le_refl _));have Z2:=Lib.hid (Z2.out.mono hb7 (Nat.le_refl _));have Z3:=Lib.hid (Z3.out.mono hb7 (Nat.le_refl _));have Z6:=Lib.hid (Z6.out.mono hb7 (Nat.le_refl _));have R2:=Lib.hid (R2.out.below hb7 R2.out.lt);have B8:=Lib.hid (B8.out.below hb7 B8.out.lt);have B10:=Lib.hid (B10.out.below hb7 B10.out.lt);have B11:=Lib.hid (B11.out.below hb7 B11.out.lt);have KW:=Lib.hid (KW.out.trans (hb7.mono KW.out.size));have xR20:=R2.out.c0;have xR21:=R2.out.c1;have xR22:=R2.out.c2;have xR23:=R2.out.c3;have xR2f:=R2.out.f;have xR2l:=R2.out.lt;have xB80:=B8.out.c0;have xB81:=B8.out.c1;have xB8f:=B8.out.f;have xB8l:=B8.out.lt;have xB100:=B10.out.c0;have xB101:=B10.out.c1;have xB10f:=B10.out.f;have xB10l:=B10.out.lt;have xB110:=B11.out.c0;have xB111:=B11.out.c1;have xB11f:=B11.out.f;have xB11l:=B11.out.lt))
    all_goals
     go_wp2
     have Z1:=Lib.hid (Z1.out.off2 B10.out (noInt_bool _) (noInt_slice _ _ _) (.bool false) (.slice a3 (nd D) c3))
     have Z3:=Lib.hid (Z3.out.off2 B10.out (noInt_bool _) (noInt_slice _ _ _) (.bool false) (.slice a3 (nd D) c3))
     have B8:=Lib.hid (B8.out.off2 (b':=w2.heap.size) (by omega) (.bool false) (.slice a3 (nd D) c3))
     have R2:=Lib.hid ((R2.out.setCell w2.heap.size 0 (.bool false) (by omega)).setCell w2.heap.size 1 (.slice a3 (nd D) c3) (by omega))
     have B10:=Lib.hid (B10.out.anew2 (.bool false) (.slice a3 (nd D) c3))
     have KW:=Lib.hid ((KW.out.setCell (p:=⟨w2.heap.size,0,none⟩) (show w.heap.size≤w2.heap.size by omega) (.bool false)).setCell (p:=⟨w2.heap.size,1,none⟩) (show w.heap.size≤w2.heap.size by omega) (.slice a3 (nd D) c3))
     refine bodyPost_ret (v:=.tuple #[.agg #[.bool false,.slice a1 (nd N) c1,.bool false,.slice a3 (nd D) c3],.bool true]) (by simp [results,Tryz.results126,go_sem,xR20,xR21,xR22,xR23,xR2f,xR2l,n1]) rfl ?_
     exact⟨_,rfl,⟨_,_,_,_,rfl,Z1.out.store4 R2.out _ _ _ _,Z3.out.store4 R2.out _ _ _ _,(by have:=H2.out;omega)⟩,below_set4q KW.out (Nat.le_refl _) _ _ _ _⟩
set_option maxHeartbeats 8000000 in
set_option maxRecDepth 100000 in
theorem parse_pn (s h1:ByteArray) (f g1:Nat→Nat) (sl N:Nat) (w:World)
  (hlong:s.size≤8002) (hm:(hp:0<s.size)→s[0].toNat≠45) (hs1:Bts s s.size f) (hsl:slD f s.size s.size=sl) (eh:s.extract 0 sl=h1) (bh:Bts h1 sl g1) (oh:okD sl g1) (hN:numD sl g1=N) (hlt:¬ sl<s.size)  :
  Calls Tryz.prog 126 #[.string s] w fun e w'=>∃ r,e = .returned (.tuple #[r,.bool true])∧QIs w' r ((N:Nat):Int) 1 1000∧Below w.heap.size w w':=by
 have hle:=slD_le f s.size s.size
 rw [hsl] at hle
 have HB:=Lib.hid hs1.2
 have HSL:=Lib.hid hsl
 have BH:=Lib.hid bh
 have OH:=Lib.hid oh
 have HN:=Lib.hid hN
 have R2:=Lib.hid (own4_new w w.heap.size rfl (.bool false) (.slice none 0 0) (.bool false) (.slice none 0 0) 59)
 have KW:=Lib.hid (boxes1 w (.cells #[.bool false,.slice none 0 0,.bool false,.slice none 0 0] 59))
 have dl:decide ((8002:Int)<(s.size:Int))=false:=by simp;omega
 have dl2:decide (8002<s.size)=false:=by simp;omega
 have ls:s.size≤8002:=by exact hlong
 clear hs1 hsl bh oh hN hlong
 rcases Nat.eq_zero_or_pos s.size with hz | hp
 ·exfalso
  have:=OH.out.1
  omega
 ·have x0:=hm hp
  have hp2:(0:Int)<(s.size:Int):=by omega
  obtain⟨c,hc⟩:∃ c,s[0].toNat=c:=⟨_,rfl⟩
  rw [hc] at x0
  have e0:(((c:Nat):Int) == 45)=false:=by simp;omega
  clear hm x0
  go_enter Tryz.func126,Tryz.ntmps126
  go_wp2
  go_loop [6,7] (fun v6 v7=>∃ j q:Nat,j≤s.size∧v7 = .int .i64 ((s.size:Int) - 1 - ((j:Nat):Int))∧v6 = .int .i64 ((q:Nat):Int)∧Hid (q=slD f s.size j)) (fun v6 v7=>(intOf v7+1).toNat)
  case atStart=>exact⟨0,s.size,Nat.zero_le _,by simp,rfl,Lib.hid rfl⟩
  case round=>
   obtain⟨j,q,hj,rfl,rfl,HQ⟩:=hrel
   by_cases hj0:j<s.size
   ·obtain⟨i,hi⟩:∃ i,i=s.size - (j+1):=⟨_,rfl⟩
    have hi2:(s.size:Int) - 1 - ((j:Nat):Int)=((i:Nat):Int):=by omega
    have hiL:i<s.size:=by omega
    rw [hi2]
    have q0:decide ((0:Int)≤((i:Nat):Int))=true:=by simp
    have q1:((i:Nat):Int)<(s.size:Int):=by omega
    have xi:=HB.out i hiL
    obtain⟨c,hc⟩:∃ c,c=f i:=⟨_,rfl⟩
    rw [←hc] at xi
    have HI:=Lib.hid hi
    have HI2:=Lib.hid hi2
    have HJ:=Lib.hid hj0
    clear hi hi2 hj0
    by_cases h47:c=47
    ·have e47:(((c:Nat):Int) == 47)=true:=by simp;omega
     have HQ2:Hid (i=slD f s.size (j+1)):=Lib.hid (by simp only [slD];rw [←HI.out,←hc,if_pos h47])
     clear h47 hc
     go_wp2
     go_round
     case rel=>exact⟨j+1,i,by have:=HJ.out;omega,by have:=HI2.out;go_num,rfl,HQ2⟩
     case measure=>simp [intOf]
    ·have e47:(((c:Nat):Int) == 47)=false:=by simp;omega
     have HQ2:Hid (q=slD f s.size (j+1)):=Lib.hid (by simp only [slD];rw [←HI.out,←hc,if_neg h47];exact HQ.out)
     clear h47 hc
     go_wp2
     go_round
     case rel=>exact⟨j+1,q,by have:=HJ.out;omega,by have:=HI2.out;go_num,rfl,HQ2⟩
     case measure=>simp [intOf]
   ·obtain rfl:j=s.size:=by omega
    have q0:(s.size:Int) - 1 - ((s.size:Nat):Int) = -1:=by omega
    rw [q0]
    obtain rfl:sl=q:=(HQ.out.trans HSL.out).symm
    have l0:((sl:Nat):Int)≤(s.size:Int):=by omega
    have l1:decide (((sl:Nat):Int)<(s.size:Int))=false:=by simp;omega
    have l1':decide (sl<s.size)=false:=by simp;omega
    clear hj hj0 q0 HQ HSL hle hlt
    have T1:=Lib.hid True.intro
    have xR20:=R2.out.c0
    have xR21:=R2.out.c1
    have xR22:=R2.out.c2
    have xR23:=R2.out.c3
    have xR2f:=R2.out.f
    have xR2l:=R2.out.lt
    go_wp2_with (first
     | (go_at_call 152;have B1:=BH.out;have O1:=OH.out;have N1:=HN.out;clear BH OH HN;(with_reducible refine (digits_yes _ sl g1 N _ B1 O1 N1).mono ?_);rintro e w1 ⟨a1,c1,rfl,Z1,hb1⟩;clear xR20 xR21 xR22 xR23 xR2f xR2l;have n1:w.heap.size+1≤w1.heap.size:=(by have:=hb1.size;simpa using this);have R2:=Lib.hid (R2.out.below hb1 R2.out.lt);have KW:=Lib.hid (KW.out.trans (hb1.mono KW.out.size));have xR20:=R2.out.c0;have xR21:=R2.out.c1;have xR22:=R2.out.c2;have xR23:=R2.out.c3;have xR2f:=R2.out.f;have xR2l:=R2.out.lt)
     | (go_at_call 76;have Z1:=Lib.hid (Z1.out.alloc (Obj.cells #[.bool false,.slice a1 (nd N) c1] 57));have R2:=Lib.hid (R2.out.alloc (Obj.cells #[.bool false,.slice a1 (nd N) c1] 57));have KW:=Lib.hid (KW.out.alloc KW.out.size (Obj.cells #[.bool false,.slice a1 (nd N) c1] 57));have B8:=Lib.hid (own2_new w1 w1.heap.size rfl (.bool false) (.slice a1 (nd N) c1) 57);have TK:=T1.out;clear T1 TK;(with_reducible refine (zint_one _).mono ?_);rintro e w2 ⟨a2,c2,rfl,Z2,hb2⟩;clear xR20 xR21 xR22 xR23 xR2f xR2l;have n2:w1.heap.size+1≤w2.heap.size:=(by have:=hb2.size;simpa using this);have Z1:=Lib.hid (Z1.out.mono hb2 (Nat.le_refl _));have R2:=Lib.hid (R2.out.below hb2 R2.out.lt);have B8:=Lib.hid (B8.out.below hb2 B8.out.lt);have KW:=Lib.hid (KW.out.trans (hb2.mono KW.out.size));have xR20:=R2.out.c0;have xR21:=R2.out.c1;have xR22:=R2.out.c2;have xR23:=R2.out.c3;have xR2f:=R2.out.f;have xR2l:=R2.out.lt;have xB80:=B8.out.c0;have xB81:=B8.out.c1;have xB8f:=B8.out.f;have xB8l:=B8.out.lt))
    all_goals
     refine bodyPost_ret (v:=.tuple #[.agg #[.bool false,.slice a1 (nd N) c1,.bool false,.slice a2 (nd 1) c2],.bool true]) (by simp [results,Tryz.results126,go_sem,xR20,xR21,xR22,xR23,xR2f,xR2l,n1]) rfl ?_
     exact⟨_,rfl,⟨_,_,_,_,rfl,(Z1.out.store4 R2.out _ _ _ _).alloc _,(Z2.out.store4 R2.out _ _ _ _).alloc _,by decide⟩,(below_set4q KW.out (Nat.le_refl _) _ _ _ _).alloc (below_set4q KW.out (Nat.le_refl _) _ _ _ _).size _⟩
end Go.Proofs.YtolkchkedieppaaGreat
