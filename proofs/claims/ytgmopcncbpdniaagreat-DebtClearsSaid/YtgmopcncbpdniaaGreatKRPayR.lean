import Derived.Test.YtgmopcncbpdniaaGreatKShelf
import Derived.Test.YtgmopcncbpdniaaGreatKInt5
import Derived.Test.YtgmopcncbpdniaaGreatKPlainFr
import Derived.Test.YtgmopcncbpdniaaGreatKRPays
set_option linter.unusedVariables false
set_option linter.unusedSimpArgs false
namespace Go.Proofs.YtgmopcncbpdniaaGreat
open Go.RowKit
attribute [local go_sem ↓] Go.wp_at_zero Go.wp_at_succ
def regAt (k:Nat):Code->Option Code
 | .region i ops b=>if i=k then some (.region i ops b) else none
 | .loop c=>regAt k c
 | .seq a b=>match regAt k a with
  | some c=>some c
  | none=>regAt k b
 | .block _ c=>regAt k c
 | .scope c=>regAt k c
 | .cond _ a b=>match regAt k a with
  | some c=>some c
  | none=>regAt k b
 | _=>none
noncomputable def regP41:Code:=((Tryz.f55.body.bind (regAt 41)).getD .skip)
theorem cmp_pos {a:Rat} (h:0<a):decide (cmpR a 0<=0)=false:=by
 unfold cmpR;split
 ·grind
 ·split
  ·grind
  ·decide
theorem cmp_neg {a:Rat} (h:¬ 0<a):decide (cmpR a 0<=0)=true:=by
 unfold cmpR;split
 ·decide
 ·split
  ·decide
  ·grind
theorem cmp_yes {a b:Rat} (h:a<b):decide (cmpR a b<0)=true:=by unfold cmpR;rw [if_pos h];decide
theorem cmp_more {a b:Rat} (h:b<a):decide (0<cmpR a b)=true:=by
 unfold cmpR;split
 ·grind
 ·split
  ·grind
  ·decide
def BadP (n:Nat) (cash:Nat->Int) (d:Nat->Nat->Int) (F:Nat->Bool) (p:Nat->Rat) (i:Nat):Prop:=
 p i<0\/totQ n d i<p i\/(F i=true/\p i≠hasP n (cashQ cash) (shQ n d) p i)
theorem bad_last {n:Nat} {cash:Nat->Int} {d:Nat->Nat->Int} {F:Nat->Bool} {p:Nat->Rat} {i:Nat} {r:Bool} (h0:¬ p i<0) (h1:¬ ((sumF (d i) n:Int):Rat)<p i) (hF:F i=true)
  (hr:r=true↔¬ cmpR (p i) (((cash i:Int):Rat)+sumQ (fun j=>p j*shQ n d j i) n)=0):r=true↔BadP n cash d F p i:=by
 rw [hr,cmpR_zero];constructor
 ·exact fun e=>.inr (.inr ⟨hF,e⟩)
 ·rintro (e | e | e)
  ·exact absurd e h0
  ·exact absurd e h1
  ·exact e.2
set_option maxHeartbeats 16000000 in
set_option maxRecDepth 1000000 in
theorem pays_reg41 (n i:Nat) (cash:Nat->Int) (d:Nat->Nat->Int) (F:Nat->Bool) (p:Nat->Rat) (wr:World) (ca da fa:Option Addr) (cb co cc db do_ dc fb fo fc g gc:Nat) (ra:Nat->Option Addr) (rd ro rc:Nat->Nat)
  (hcs:IsSl wr ca cb co cc n (ic cash)) (hdm:IsMat wr da db do_ dc n ra rd ro rc (fun _=>n) d) (hfs:IsSl wr fa fb fo fc n (bF F)) (hp:VSl wr (.slice (some ⟨g,0,none⟩) n gc) n p 100000000) (h:i<n) (hn8:n<=8)
  (hC:∀ i,i<n->0<=cash i/\cash i<=1000) (hd:∀ i j,0<=d i j) (hR:∀ i j,i<n->j<n->d i j<=1000) (hT:∀ i,i<n->sumF (d i) n<=100000)
  (e3 e4 e5 e6 e7 e8 e9 e10 e11 e12 e13 e14 e15 e16 e18 e19 e20 e21 e22 e23 e24 e25 e26 e27 e29 e30 e31 e32 e33 e34 e35 e36 e37 e38 e39 e40 e41 e42 e43 e44 e45 e46 e47 e48 e49 e50 e51 e52 e53 e54 e55 e56 e57 e58 e59 e60 e61 e62 e63 e64 e65 e66 e67 e68 e69 e70 e71 e72 e73 e74 e75 e76 e77 e78 e79 e80 e81 e82 e83 e84 e85 e86 e87 e88 e89 e90 e91 e92 e93 e94 e95 e96 e97 e98 e99 e100 e101 e102 e103 e104 e105 e106 e107 e108 e109 e110 e111 e112 e113 e114 e115 e116 e117 e118 e119 e120 e121 e122 e123 e124 e125 e126 e127 e128 e129 e130 e131 e132 e133 e134 e135 e136 e137 e138 e139 e140 e141 e142 e143 e144 e145 e146 e147 e148 e149 e150 e151 e152 e153 e154 e155 e156 e157 e158 e159 e160 e161 e162 e163 e164 e165 e166 e167 e168 e169 e170 e171 e172 e173 e174 e175 e176 e177 e178 e179 e180 e181 e182 e183 e184 e185 e186 e187 e188 e189 e190 e191 e192 e193 e194 e195 e196 e197 e198 e199 e200 e201 e202 e203 e204 e205 e206 e207 e208 e209 e210 e211 e212 e213 e214 e215 e216 e217 e218 e219 e220 e221 e222 e223 e224 e225 e226 e227 e228 e229 e230 e231 e232 e233 e234 e235 e236 e237 e238 e239 e240 e241 e242 e243 e244 e245 e246:Value) (Q:Exit->Act->World->Prop) (hQp:∀ c (a:Act) o v w,Q (.panic c) (a.put o v) w->Q (.panic c) a w) (hQ:∀ (r:Bool) (w':World) (z201 z202 z203 z204 z205 z206 z207 z208 z209 z210 z211 z212 z213 z214 z215 z216 z217 z218 z219 z220 z221 z222 z223 z224 z225 z226 z227 z228 z229 z230 z231 z232 z233 z234 z235 z236 z237 z238 z239 z240 z241 z242 z243 z244:Value),(r=true↔BadP n cash d F p i)->Below wr.heap.size wr w'->Q .normal ⟨#[.slice ca n cc,.slice da n dc,.slice fa n fc,e3,e4,e5,e6,e7,e8,e9,e10,e11,e12,e13,e14,e15,e16,.slice (some ⟨g,0,none⟩) n gc,e18,e19,e20,e21,e22,e23,e24,e25,e26,e27,.int .i64 (i:Nat),e29,e30,e31,e32,e33,e34,e35,e36,e37,e38,e39,e40,e41,e42,e43,e44,e45,e46,e47,e48,e49,e50,e51,e52,e53,e54,e55,e56,e57,e58,e59,e60,e61,e62,e63,e64,e65,e66,e67,e68,e69,e70,e71,e72,e73,e74,e75,e76,e77,e78,e79,e80,e81,e82,e83,e84,e85,e86,e87,e88,e89,e90,e91,e92,e93,e94,e95,e96,e97,e98,e99,e100,e101,e102,e103,e104,e105,e106,e107,e108,e109,e110,e111,e112,e113,e114,e115,e116,e117,e118,e119,e120,e121,e122,e123,e124,e125,e126,e127,e128,e129,e130,e131,e132,e133,e134,e135,e136,e137,e138,e139,e140,e141,e142,e143,e144,e145,e146,e147,e148,e149,e150,e151,e152,e153,e154,e155,e156,e157,e158,e159,e160,e161,e162,e163,e164,e165,e166,e167,e168,e169,e170,e171,e172,e173,e174,e175,e176,e177,e178,e179,e180,e181,e182,e183,e184,e185,e186,e187,e188,e189,e190,e191,e192,e193,e194,e195,e196,e197,e198,e199,e200,z201,z202,z203,z204,z205,z206,z207,z208,z209,z210,z211,z212,z213,z214,z215,z216,z217,z218,z219,z220,z221,z222,z223,z224,z225,z226,z227,z228,z229,z230,z231,z232,z233,z234,z235,z236,z237,z238,z239,z240,z241,z242,z243,z244,.bool r,e246],[]⟩ w')
  {code:Code} (hcode:code=regP41):Code.wp Tryz.prog code Q ⟨#[.slice ca n cc,.slice da n dc,.slice fa n fc,e3,e4,e5,e6,e7,e8,e9,e10,e11,e12,e13,e14,e15,e16,.slice (some ⟨g,0,none⟩) n gc,e18,e19,e20,e21,e22,e23,e24,e25,e26,e27,.int .i64 (i:Nat),e29,e30,e31,e32,e33,e34,e35,e36,e37,e38,e39,e40,e41,e42,e43,e44,e45,e46,e47,e48,e49,e50,e51,e52,e53,e54,e55,e56,e57,e58,e59,e60,e61,e62,e63,e64,e65,e66,e67,e68,e69,e70,e71,e72,e73,e74,e75,e76,e77,e78,e79,e80,e81,e82,e83,e84,e85,e86,e87,e88,e89,e90,e91,e92,e93,e94,e95,e96,e97,e98,e99,e100,e101,e102,e103,e104,e105,e106,e107,e108,e109,e110,e111,e112,e113,e114,e115,e116,e117,e118,e119,e120,e121,e122,e123,e124,e125,e126,e127,e128,e129,e130,e131,e132,e133,e134,e135,e136,e137,e138,e139,e140,e141,e142,e143,e144,e145,e146,e147,e148,e149,e150,e151,e152,e153,e154,e155,e156,e157,e158,e159,e160,e161,e162,e163,e164,e165,e166,e167,e168,e169,e170,e171,e172,e173,e174,e175,e176,e177,e178,e179,e180,e181,e182,e183,e184,e185,e186,e187,e188,e189,e190,e191,e192,e193,e194,e195,e196,e197,e198,e199,e200,e201,e202,e203,e204,e205,e206,e207,e208,e209,e210,e211,e212,e213,e214,e215,e216,e217,e218,e219,e220,e221,e222,e223,e224,e225,e226,e227,e228,e229,e230,e231,e232,e233,e234,e235,e236,e237,e238,e239,e240,e241,e242,e243,e244,e245,e246],[]⟩ wr:=by
 have HM:=jj hdm;have HCS:=jj hcs;have HFS:=jj hfs;have HDM:Hid (Mat wr (.slice da n dc) n (fun _=>n) d):=jj ⟨da,db,do_,dc,ra,rd,ro,rc,rfl,hdm⟩;have HP:=jj hp;have HD0:=jj hd;have HR0:=jj hR;have HT0:=jj hT;have HC0:=jj hC;have HQQ:=jj hQ;have HQP:=jj hQp;clear hQp;obtain⟨g',gc',hge,hgc',hgl,hgv⟩:=hp.val;injection hge with q1 q2 q3;injection q1 with q1;injection q1 with q1 q4 q5;subst q1 q3;have HGL:=jj hgl;have KW:=jj (jr wr);have KW3:=jj (jr wr);have ixp:=fun W=>ixV g n gc i h W
 have ixd:=fun W=>ixM HM.out.top i dc h W
 have ixf:=fun W=>ixF HFS.out i fc h W
 have ixc:=fun W=>ixI HCS.out i cc h W
 obtain⟨s5,a5,n5,c5,t5,b5,l5,k5,z0,z1,z2,z3,zq⟩:=hgv i h;have QK:Hid (QV wr (.agg #[.bool s5,.slice a5 n5 c5,.bool t5,.slice b5 l5 k5]) (p i) 100000000):=jj zq;have HZ:=jj (And.intro z0 (And.intro z1 (And.intro z2 z3)));have y0:=jj (HM.out.top.cell i h);have y1:=jj (HFS.out.cell i h);have y2:=jj (HCS.out.cell i h);have HW:Hid (-9223372036854775808<=cash i/\cash i<9223372036854775808):=jj (by have:=HC0.out i h;omega);have HT:Hid (-9223372036854775808<=sumF (d i) n/\sumF (d i) n<9223372036854775808):=jj (by have:=HT0.out i h;have:=sumF_nn (HD0.out i) n;omega);have HDT:Hid (∀ l,l<n->-(1099511627776:Int)<=d i l/\d i l<=1099511627776):=jj (fun l hl=>by have:=HR0.out i l h hl;have:=HD0.out i l;omega);clear z0 z1 z2 z3 zq hgv hgl hgc' hp hQ hcs hdm hfs hd hR hT hC;subst hcode
 conv=>arg 2;whnf
 have keepR:Hid (∀ w',Below wr.heap.size wr w'->w'.cell? ⟨g,i*4,none⟩=some (.bool s5)/\w'.cell? ⟨g,i*4+1,none⟩=some (.slice a5 n5 c5)/\w'.cell? ⟨g,i*4+2,none⟩=some (.bool t5)/\w'.cell? ⟨g,i*4+3,none⟩=some (.slice b5 l5 k5)/\w'.cell? ⟨db,do_+i,none⟩=some (.slice (ra i) n (rc i))/\w'.cell? ⟨fb,fo+i,none⟩=some (.bool (F i))/\w'.cell? ⟨cb,co+i,none⟩=some (.int .i64 (cash i))):=
  jj (fun w' hb=>⟨bel1 hb HZ.out.1 HGL.out,bel1 hb HZ.out.2.1 HGL.out,bel1 hb HZ.out.2.2.1 HGL.out,bel1 hb HZ.out.2.2.2 HGL.out,
   bel1 hb y0.out (HM.out.top.lt (by omega)),(by have e:=bel1 hb y1.out (HFS.out.lt (by omega));simp only [bF] at e;exact e),bel1 hb y2.out (HCS.out.lt (by omega))⟩)
 have VL:=jj (jr wr).drew;refine wp_region_held_drew (S:=fun w'=>w'.cell? ⟨g,i*4,none⟩=some (.bool s5)/\w'.cell? ⟨g,i*4+1,none⟩=some (.slice a5 n5 c5)/\w'.cell? ⟨g,i*4+2,none⟩=some (.bool t5)/\w'.cell? ⟨g,i*4+3,none⟩=some (.slice b5 l5 k5)/\w'.cell? ⟨db,do_+i,none⟩=some (.slice (ra i) n (rc i))/\w'.cell? ⟨fb,fo+i,none⟩=some (.bool (F i))/\w'.cell? ⟨cb,co+i,none⟩=some (.int .i64 (cash i))) (by kernel_rfl) (keepR.out _ VL.out) (fun hHeld=>?_);refine wtk_begin [0,1,2,3,4] ?_
 iterate 5 (refine wtk (v:=?_) rfl (by as_aux_lemma=>kernel_rfl) (fun c _ w h=>HQP.out c _ _ _ w h) (by kernel_rfl) ?_ (by assumption) ?_;rotate_left;(focus intro w0 hSw;(try dsimp only at hSw);go_simp;all_goals (with_reducible rfl));simp only [Act.put,js,jz,jc])
 refine wtk_end ?_;refine wpAnyH_ready (rs:=[5]) (by kernel_rfl) (by simp) ?_;refine AllReadyH.cons rfl (fun Kn hKn=>?_) AllReadyH.nil;go_simp
 (go_at_call 29;(with_reducible refine (qv_sign (p i) 100000000 _ (QK.out.mono VL.out jl)).mono ?_);rintro e w3 ⟨rfl,hb3⟩;have VL:=jj (jb VL.out hb3))
 go_wp2_with fail;refine hKn.out _ _ (keepR.out _ VL.out) (fun hHeld=>?_);clear hKn Kn
 (try simp only [Act.put,js,jz,jc])
 by_cases hp0:p i<0
 ·have d1:=cmp_yes hp0;have HB:Hid (BadP n cash d F p i):=jj (.inl hp0);clear hp0;refine wtk_begin [6,7] ?_
  iterate 2 (refine wtk (v:=?_) rfl (by as_aux_lemma=>kernel_rfl) (fun c _ w h=>HQP.out c _ _ _ w h) (by kernel_rfl) ?_ (by assumption) ?_;rotate_left;(focus intro w0 hSw;(try dsimp only at hSw);go_simp;all_goals (with_reducible rfl));simp only [Act.put,js,jz,jc])
  refine wtk_end ?_;refine wtk_begin [8,9,10,11,12,13,14,15,16,17,18,19] ?_
  iterate 12 (refine wtk_un rfl (by as_aux_lemma=>kernel_rfl) (fun c _ w h=>HQP.out c _ _ _ w h) (by kernel_rfl) (by assumption) ?_;simp only [jt,jd,je,Act.put,js,jz,jc])
  refine wtk_end ?_;refine wtk_begin [20,21] ?_
  iterate 2 (refine wtk (v:=?_) rfl (by as_aux_lemma=>kernel_rfl) (fun c _ w h=>HQP.out c _ _ _ w h) (by kernel_rfl) ?_ (by assumption) ?_;rotate_left;(focus intro w0 hSw;(try dsimp only at hSw);go_simp;all_goals (with_reducible rfl));simp only [Act.put,js,jz,jc])
  refine wtk_end ?_;refine wtk_begin [22,23,24,25,26,27,28,29,30,31,32,33,34,35,36,37,38,39,40,41,42,43] ?_
  iterate 22 (refine wtk_un rfl (by as_aux_lemma=>kernel_rfl) (fun c _ w h=>HQP.out c _ _ _ w h) (by kernel_rfl) (by assumption) ?_;simp only [jt,jd,je,Act.put,js,jz,jc])
  refine wtk_end ?_;refine wtk_begin [44] ?_
  (refine wtk (v:=?_) rfl (by as_aux_lemma=>kernel_rfl) (fun c _ w h=>HQP.out c _ _ _ w h) (by kernel_rfl) ?_ (by assumption) ?_;rotate_left;(focus intro w0 hSw;(try dsimp only at hSw);go_simp;all_goals (with_reducible rfl));simp only [Act.put,js,jz,jc])
  refine wtk_end ?_;refine wpAnyH_done (by as_aux_lemma=>kernel_rfl) ?_ _;exact HQQ.out true _ _ _ _ _ _ _ _ _ _ _ _ _ _ _ _ _ _ _ _ _ _ _ _ _ _ _ _ _ _ _ _ _ _ _ _ _ _ _ _ _ _ _ _ _ ⟨fun _=>HB.out,fun _=>rfl⟩ VL.out
 have d1:=cmp_no hp0;refine wtk_begin [6,7,8,9,10,11,12,13,14,15] ?_
 iterate 10 (refine wtk (v:=?_) rfl (by as_aux_lemma=>kernel_rfl) (fun c _ w h=>HQP.out c _ _ _ w h) (by kernel_rfl) ?_ (by assumption) ?_;rotate_left;(focus intro w0 hSw;(try dsimp only at hSw);go_simp;all_goals (with_reducible rfl));simp only [Act.put,js,jz,jc])
 refine wtk_end ?_;refine wpAnyH_ready (rs:=[16]) (by kernel_rfl) (by simp) ?_;refine AllReadyH.cons rfl (fun Kn hKn=>?_) AllReadyH.nil;go_simp
 (go_at_call 17;(with_reducible refine (total_any _ n (d i) _ ((HM.out.row i h).ints.mono (jb KW.out VL.out) jl) (by omega) HDT.out).mono ?_);rintro e w4 ⟨rfl,hd4⟩;have VL:=jj (VL.out.trans ((hd4.below _).mono VL.out.size)))
 go_wp2_with fail;refine hKn.out _ _ (keepR.out _ VL.out) (fun hHeld=>?_);clear hKn Kn
 (try simp only [Act.put,js,jz,jc])
 refine wpAnyH_ready (rs:=[17]) (by kernel_rfl) (by simp) ?_;refine AllReadyH.cons rfl (fun Kn hKn=>?_) AllReadyH.nil;go_simp
 (go_at_call 16;(with_reducible refine (qv_whole (sumF (d i) n) _ HT.out.1 HT.out.2).mono ?_);rintro e w5 ⟨r5,rfl,hr5,hb5⟩;obtain⟨s6,a6,n6,c6,t6,b6,l6,k6,rfl,QT⟩:=hr5.shape;clear hr5;have VL:=jj (jb VL.out hb5))
 go_wp2_with fail;refine hKn.out _ _ (keepR.out _ VL.out) (fun hHeld=>?_);clear hKn Kn
 (try simp only [Act.put,js,jz,jc])
 refine wpAnyH_ready (rs:=[18]) (by kernel_rfl) (by simp) ?_;refine AllReadyH.cons rfl (fun Kn hKn=>?_) AllReadyH.nil;go_simp
 (go_at_call 14;(with_reducible refine (qv_cmp _ _ (p i) ((sumF (d i) n:Int):Rat) 100000000 _ (QK.out.mono VL.out jl) (QT.out.le (by omega)) (by omega)).mono ?_);rintro e w6 ⟨rfl,hb6⟩;have VL:=jj (jb VL.out hb6))
 go_wp2_with fail;refine hKn.out _ _ (keepR.out _ VL.out) (fun hHeld=>?_);clear hKn Kn
 (try simp only [Act.put,js,jz,jc])
 by_cases hp1:((sumF (d i) n:Int):Rat)<p i
 ·have d2:=cmp_more hp1;have HB:Hid (BadP n cash d F p i):=jj (.inr (.inl hp1));clear hp0 hp1;refine wtk_begin [19,20,21] ?_
  iterate 3 (refine wtk (v:=?_) rfl (by as_aux_lemma=>kernel_rfl) (fun c _ w h=>HQP.out c _ _ _ w h) (by kernel_rfl) ?_ (by assumption) ?_;rotate_left;(focus intro w0 hSw;(try dsimp only at hSw);go_simp;all_goals (with_reducible rfl));simp only [Act.put,js,jz,jc])
  refine wtk_end ?_;refine wtk_begin [22,23,24,25,26,27,28,29,30,31,32,33,34,35,36,37,38,39,40,41,42,43] ?_
  iterate 22 (refine wtk_un rfl (by as_aux_lemma=>kernel_rfl) (fun c _ w h=>HQP.out c _ _ _ w h) (by kernel_rfl) (by assumption) ?_;simp only [jt,jd,je,Act.put,js,jz,jc])
  refine wtk_end ?_;refine wtk_begin [44] ?_
  (refine wtk (v:=?_) rfl (by as_aux_lemma=>kernel_rfl) (fun c _ w h=>HQP.out c _ _ _ w h) (by kernel_rfl) ?_ (by assumption) ?_;rotate_left;(focus intro w0 hSw;(try dsimp only at hSw);go_simp;all_goals (with_reducible rfl));simp only [Act.put,js,jz,jc])
  refine wtk_end ?_;refine wpAnyH_done (by as_aux_lemma=>kernel_rfl) ?_ _;exact HQQ.out true _ _ _ _ _ _ _ _ _ _ _ _ _ _ _ _ _ _ _ _ _ _ _ _ _ _ _ _ _ _ _ _ _ _ _ _ _ _ _ _ _ _ _ _ _ ⟨fun _=>HB.out,fun _=>rfl⟩ VL.out
 have d2:decide (0<cmpR (p i) ((sumF (d i) n:Int):Rat))=false:=cmp_le (Rat.not_lt.1 hp1);rcases (show F i=false\/F i=true by cases F i <;> simp) with hFi | hFi
 ·have HB:Hid (¬ BadP n cash d F p i):=jj (fun e=>by
   rcases e with e | e | e
   ·exact hp0 e
   ·exact hp1 e
   ·rw [hFi] at e;cases e.1)
  clear hp0 hp1;refine wtk_begin [19,20,21,22,23,24,25,26] ?_
  iterate 8 (refine wtk (v:=?_) rfl (by as_aux_lemma=>kernel_rfl) (fun c _ w h=>HQP.out c _ _ _ w h) (by kernel_rfl) ?_ (by assumption) ?_;rotate_left;(focus intro w0 hSw;(try dsimp only at hSw);go_simp;all_goals (with_reducible rfl));simp only [Act.put,js,jz,jc])
  refine wtk_end ?_;refine wtk_begin [27,28,29,30,31,32,33,34,35,36,37,38,39,40,41,42] ?_
  iterate 16 (refine wtk_un rfl (by as_aux_lemma=>kernel_rfl) (fun c _ w h=>HQP.out c _ _ _ w h) (by kernel_rfl) (by assumption) ?_;simp only [jt,jd,je,Act.put,js,jz,jc])
  refine wtk_end ?_;refine wtk_begin [43,44] ?_
  iterate 2 (refine wtk (v:=?_) rfl (by as_aux_lemma=>kernel_rfl) (fun c _ w h=>HQP.out c _ _ _ w h) (by kernel_rfl) ?_ (by assumption) ?_;rotate_left;(focus intro w0 hSw;(try dsimp only at hSw);go_simp;all_goals (with_reducible rfl));simp only [Act.put,js,jz,jc])
  refine wtk_end ?_;refine wpAnyH_done (by as_aux_lemma=>kernel_rfl) ?_ _;exact HQQ.out false _ _ _ _ _ _ _ _ _ _ _ _ _ _ _ _ _ _ _ _ _ _ _ _ _ _ _ _ _ _ _ _ _ _ _ _ _ _ _ _ _ _ _ _ _ ⟨fun e=>Bool.noConfusion e,fun e=>absurd e HB.out⟩ VL.out
 have HP0:=jj hp0;have HP1:=jj hp1;clear hp0 hp1;refine wtk_begin [19,20,21,22,23,24,25,26,27,28,29,30,31,32,33,34,36,37,38] ?_
 iterate 19 (refine wtk (v:=?_) rfl (by as_aux_lemma=>kernel_rfl) (fun c _ w h=>HQP.out c _ _ _ w h) (by kernel_rfl) ?_ (by assumption) ?_;rotate_left;(focus intro w0 hSw;(try dsimp only at hSw);go_simp;all_goals (with_reducible rfl));simp only [Act.put,js,jz,jc])
 refine wtk_end ?_;refine wpAnyH_ready (rs:=[35]) (by kernel_rfl) (by simp) ?_;refine AllReadyH.cons rfl (fun Kn hKn=>?_) AllReadyH.nil;go_simp
 (go_at_call 16;(with_reducible refine (qv_whole (cash i) _ HW.out.1 HW.out.2).mono ?_);rintro e w7 ⟨r7,rfl,hr7,hb7⟩;obtain⟨s7,a7,n7,c7,t7,b7,l7,k7,rfl,QC⟩:=hr7.shape;clear hr7;have VL:=jj (jb VL.out hb7))
 go_wp2_with fail;refine hKn.out _ _ (keepR.out _ VL.out) (fun hHeld=>?_);clear hKn Kn
 (try simp only [Act.put,js,jz,jc])
 refine wpAnyH_ready (rs:=[39]) (by kernel_rfl) (by simp) ?_;refine AllReadyH.cons rfl (fun Kn hKn=>?_) AllReadyH.nil;go_simp
 (go_at_call 19;(with_reducible refine (recv_any _ _ n i d p 100000000 _ (HDM.out.mono (jb KW.out VL.out) jl) (HP.out.mono ((jb KW3.out VL.out)) jl) h hn8 HD0.out HR0.out HT0.out (by omega) (by omega)).mono ?_);rintro e w8 ⟨r8,rfl,hr8,hb8⟩;have hr8:=QV.of hr8;obtain⟨s8,a8,n8,c8,t8,b8,l8,k8,rfl,QR⟩:=hr8.shape;clear hr8;have QC:=jj (QC.out.mono hb8 jl);have VL:=jj (jb VL.out hb8))
 go_wp2_with fail;refine hKn.out _ _ (keepR.out _ VL.out) (fun hHeld=>?_);clear hKn Kn
 (try simp only [Act.put,js,jz,jc])
 refine wpAnyH_ready (rs:=[40]) (by kernel_rfl) (by simp) ?_;refine AllReadyH.cons rfl (fun Kn hKn=>?_) AllReadyH.nil;go_simp
 (go_at_call 18;(with_reducible refine (qv_add _ _ ((cash i:Int):Rat) (sumQ (fun j=>p j*shQ n d j i) n) (512*(100000000+1)) _ (QC.out.le (by omega)) QR.out (by omega)).mono ?_);rintro e w9 ⟨r9,rfl,hr9,hb9⟩;obtain⟨s9,a9,n9,c9,t9,b9,l9,k9,rfl,QA⟩:=hr9.shape;clear hr9;have VL:=jj (jb VL.out hb9))
 go_wp2_with fail;refine hKn.out _ _ (keepR.out _ VL.out) (fun hHeld=>?_);clear hKn Kn
 (try simp only [Act.put,js,jz,jc])
 refine wpAnyH_ready (rs:=[41]) (by kernel_rfl) (by simp) ?_;refine AllReadyH.cons rfl (fun Kn hKn=>?_) AllReadyH.nil;go_simp
 (go_at_call 14;(with_reducible refine (qv_cmp _ _ (p i) (((cash i:Int):Rat)+sumQ (fun j=>p j*shQ n d j i) n) (2*(512*(100000000+1))+1) _ ((QK.out.mono VL.out jl).le (by omega)) QA.out (by omega)).mono ?_);rintro e w10 ⟨rfl,hb10⟩;have VL:=jj (jb VL.out hb10))
 go_wp2_with fail;refine hKn.out _ _ (keepR.out _ VL.out) (fun hHeld=>?_);clear hKn Kn
 (try simp only [Act.put,js,jz,jc])
 refine wtk_begin [42,43,44] ?_
 iterate 3 (refine wtk (v:=?_) rfl (by as_aux_lemma=>kernel_rfl) (fun c _ w h=>HQP.out c _ _ _ w h) (by kernel_rfl) ?_ (by assumption) ?_;rotate_left;(focus intro w0 hSw;(try dsimp only at hSw);go_simp;all_goals (with_reducible rfl));simp only [Act.put,js,jz,jc])
 refine wtk_end ?_;refine wpAnyH_done (by kernel_rfl) ?_ _;exact HQQ.out _ _ _ _ _ _ _ _ _ _ _ _ _ _ _ _ _ _ _ _ _ _ _ _ _ _ _ _ _ _ _ _ _ _ _ _ _ _ _ _ _ _ _ _ _ _ (bad_last HP0.out HP1.out hFi (by simp)) VL.out
end Go.Proofs.YtgmopcncbpdniaaGreat
