import Derived.Test.YtolkchkedieppaaGreatZNum3
import Derived.Test.YtolkchkedieppaaGreatZTakes
set_option linter.unusedVariables false
set_option linter.unusedSimpArgs false
namespace Go.Proofs.YtolkchkedieppaaGreat
open Go.RowKit
theorem mul_digit (dx dy f c:Nat) (h1:dx<4294967296) (h2:dy<4294967296) (h3:f<4294967296) (h4:c<4294967296) :
  dx*dy≤18446744065119617025∧(dx*dy+f+c) / 4294967296<4294967296:=by
 have:dx*dy≤4294967295*4294967295:=Nat.mul_le_mul (by omega) (by omega)
 omega
theorem mul_in (v v0 c dx dy f Y P Q:Nat) (h:v+c*(P*Q)=v0+dx*Y*P) :
  v+(dx*dy+f+c) % 4294967296*(P*Q)+(dx*dy+f+c) / 4294967296*(P*Q*4294967296)=(v0+f*(P*Q))+dx*(Y+dy*Q)*P:=by
 have e:=Nat.div_add_mod (dx*dy+f+c) 4294967296
 generalize (dx*dy+f+c) / 4294967296=q at *
 generalize (dx*dy+f+c) % 4294967296=r at *
 have e1:r*(P*Q)+q*(P*Q*4294967296)=(dx*dy+f+c)*(P*Q):=by rw [←e];grind
 have e2:(dx*dy+f+c)*(P*Q)=dx*dy*(P*Q)+f*(P*Q)+c*(P*Q):=by grind
 have e3:dx*(Y+dy*Q)*P=dx*Y*P+dx*dy*(P*Q):=by grind
 omega
set_option maxHeartbeats 1000000 in
theorem times_any (u v:Value) (x y:Nat) (w:World) (hu:Mag w u x) (hv:Mag w v y) (bxy:nl x+nl y≤1099511627776) :
  Calls Tryz.prog 122 #[u,v] w fun e w'=>∃ r,e = .returned r∧Mag w' r (x*y)∧Below w.heap.size w w':=by
 obtain⟨a1,b1,o1,c1,rfl,i1⟩:=hu
 obtain⟨a2,b2,o2,c2,rfl,i2⟩:=hv
 have hmk:=run_make_row' (P:=Tryz.prog) 110 166 (.int .u32 0) 4 Tryz.underlying110 info32 rfl .i64 .i64 (nl x+nl y) (by omega) (by omega)
 have ec:((nl x+nl y:Nat):Int)=(nl x:Int)+nl y:=by omega
 rw [ec] at hmk
 clear ec
 have hrow:=World.rowIs_made w (.int .u32 0) (nl x+nl y) 166
 have hbel:Below w.heap.size w (w.alloc (.cells (madeCells #[.int .u32 0] (nl x+nl y)) 166)):=(Below.refl _ _).alloc (Nat.le_refl _) _
 have HR:=Lib.hid hrow
 have HB:=Lib.hid hbel
 clear hrow hbel
 go_enter Tryz.func122,Tryz.ntmps122
 go_wp2
 go_loopw [20] (fun i wr=>∃ (k:Nat) (f:Nat→Nat),k≤nl x∧i = .int .i64 k∧wr.rowIs w.heap.size 166 (nl x+nl y) (fun j=>.int .u32 (f j:Nat))∧
   (∀ j,j<nl x+nl y→f j<4294967296)∧valF f (k+nl y)=valF (dig x) k*y∧Below w.heap.size w wr) (fun i _=>nl x - (intOf i).toNat)
 case atStart=>exact⟨0,fun _=>0,Nat.zero_le _,rfl,HR.out,fun j hj=>by show 0<_;omega,by
  have:∀ n,valF (fun _=>0) n=0:=fun n=>by induction n with | zero=>rfl | succ n ih=>simp [valF,ih]
  rw [this];simp [valF],HB.out⟩
 case round=>
  obtain⟨k,f0,hk,rfl,hrow,hf,hv,hb⟩:=hrel
  have HV:=Lib.hid hv
  have HF:=Lib.hid hf
  clear hv hf hmk
  by_cases hlt:k<nl x
  ·have j1:=i1.mono hb (Nat.le_refl _)
   have hc1:=j1.cell k hlt
   have hx1:=fun W=>ix32 j1 (k:Int) (by omega) (by omega) (nl x) c1 W
   simp only [Int.toNat_natCast] at hx1
   simp only [lc] at hc1
   have hdx:=dig_lt x k
   go_wp2
   obtain⟨wo,hwo⟩:∃ wo:World,wo=wr:=⟨_,rfl⟩
   subst hwo
   go_loopw [8,27] (fun cy i wr=>∃ (j c:Nat) (f:Nat→Nat),j≤nl y∧i = .int .i64 j∧cy = .int .u64 c∧c<4294967296∧wr.rowIs w.heap.size 166 (nl x+nl y) (fun j=>.int .u32 (f j:Nat))∧
    (∀ j,j<nl x+nl y→f j<4294967296)∧(∀ t,k+j≤t→f t=f0 t)∧valF f (k+j)+c*(4294967296 ^ k*4294967296 ^ j)=valF f0 (k+j)+dig x k*valF (dig y) j*4294967296 ^ k∧Below w.heap.size w wr) (fun _ i _=>nl y - (intOf i).toNat)
   case atStart=>exact⟨0,0,f0,Nat.zero_le _,rfl,rfl,by omega,hrow,HF.out,fun _ _=>rfl,by simp [valF],hb⟩
   case round=>
    obtain⟨j,c,f,hj,rfl,rfl,hcl,hrow2,hf2,hsame,hv2,hb2⟩:=hrel
    have HV2:=Lib.hid hv2
    have HF2:=Lib.hid hf2
    have HS:=Lib.hid hsame
    clear hv2 hf2 hsame hrow hb j1 hc1 hx1
    by_cases hlt2:j<nl y
    ·have j2:=i2.mono hb2 (Nat.le_refl _)
     have hc2:=j2.cell j hlt2
     have hx2:=fun W=>ix32 j2 (j:Int) (by omega) (by omega) (nl y) c2 W
     simp only [Int.toNat_natCast] at hx2
     simp only [lc] at hc2
     have hdy:=dig_lt y j
     have hfl:=HF2.out (k+j) (by omega)
     have hmd:=mul_digit (dig x k) (dig y j) (f (k+j)) c hdx hdy hfl hcl
     have hm0:(0:Int)≤(dig x k:Int)*(dig y j:Int):=Int.mul_nonneg (by omega) (by omega)
     have hm1:(dig x k:Int)*(dig y j:Int)≤18446744065119617025:=by have:=hmd.1;rw [←Int.natCast_mul];omega
     have hc:=hrow2.cell (i:=k+j) (by omega)
     have hfz:=hrow2.frozen (k+j)
     have HMD:=Lib.hid hmd
     clear hmd j2
     go_wp2
     have htc:((dig x k:Int)*(dig y j:Int)+(f (k+j):Int)+(c:Int))=((dig x k*dig y j+f (k+j)+c:Nat):Int):=by rw [Int.natCast_add,Int.natCast_add,Int.natCast_mul]
     go_roundw
     case rel=>exact⟨j+1,(dig x k*dig y j+f (k+j)+c) / 4294967296,upd f (k+j) ((dig x k*dig y j+f (k+j)+c) % 4294967296),by omega,by go_num,by rw [htc];congr 1,HMD.out.2,
      row_upd hrow2 _ _ (by rw [htc];congr 1),upd_lt HF2.out (Nat.mod_lt _ (by omega)),
      (fun t ht=>by unfold upd;rw [if_neg (by omega)];exact HS.out t (by omega)),(by
       rw [←Nat.add_assoc]
       simp only [valF,valF_upd f (k+j) _ (k+j) (Nat.le_refl _),upd_self]
       have e1:f (k+j)=f0 (k+j):=HS.out _ (Nat.le_refl _)
       have:=mul_in _ _ _ (dig x k) (dig y j) (f (k+j)) _ _ _ HV2.out
       rw [←e1,Nat.pow_add,Nat.pow_succ,←Nat.mul_assoc (4294967296 ^ k)]
       exact this),hb2.setCell (Nat.le_refl _) _⟩
     case measure=>simp [intOf];omega
    ·obtain rfl:j=nl y:=by omega
     have hc:=hrow2.cell (i:=k+nl y) (by omega)
     have hfz:=hrow2.frozen (k+nl y)
     go_wp2
     go_roundw
     case rel=>exact⟨k+1,upd f (k+nl y) c,by omega,by go_num,row_upd hrow2 _ _ rfl,upd_lt HF2.out hcl,(by
      rw [show k+1+nl y=k+nl y+1 from by omega]
      simp only [valF,valF_upd f (k+nl y) _ (k+nl y) (Nat.le_refl _),upd_self]
      have h2:=HV2.out
      have h1:=HV.out
      have h3:=valF_nl y
      rw [h1,h3] at h2
      rw [Nat.pow_add,h2,Nat.add_mul]
      have:dig x k*4294967296 ^ k*y=dig x k*y*4294967296 ^ k:=by ac_rfl
      omega),hb2.setCell (Nat.le_refl _) _⟩
     case measure=>simp [intOf];omega
  ·obtain rfl:k=nl x:=by omega
   go_wp2_with (go_at_call 116;refine (trim_any _ w.heap.size 0 _ (nl x+nl y) f0 _ (by omega) (IsSl.of_row hrow (Nat.le_refl _) _ (Nat.le_refl _))).mono ?_;rintro e w' ⟨rfl,rfl⟩)
   go_ret
   refine⟨_,rfl,?_,hb⟩
   have hval:valF f0 (nl x+nl y)=x*y:=by
    rw [HV.out,valF_nl]
   rw [←hval]
   exact trim_mag HF.out (IsSl.of_row hrow (Nat.le_refl _) _ (Nat.le_refl _))
end Go.Proofs.YtolkchkedieppaaGreat
namespace Go.Proofs.YtolkchkedieppaaGreat
open Go.RowKit
theorem word_step (x W k:Nat) (hW:0<W) (hk:0<k) :
  dig (x / W) (k - 1)=((x / 4294967296 ^ k) % W*4294967296+dig x (k - 1)) / W∧
  (x / 4294967296 ^ (k - 1)) % W=((x / 4294967296 ^ k) % W*4294967296+dig x (k - 1)) % W∧
  ((x / 4294967296 ^ k) % W*4294967296+dig x (k - 1)) / W<4294967296:=by
 obtain⟨j,rfl⟩:∃ j,k=j+1:=⟨k - 1,by omega⟩
 simp only [Nat.add_sub_cancel]
 have e:=div_step x j
 have hd:=dig_lt x j
 generalize x / 4294967296 ^ (j+1)=u at *
 have hu:=Nat.div_add_mod u W
 have hr:=Nat.mod_lt u hW
 have e2:x / 4294967296 ^ j=(u / W*4294967296)*W+(u % W*4294967296+dig x j):=by
  rw [e]
  have:u*4294967296=(W*(u / W)+u % W)*4294967296:=by rw [hu]
  rw [this]
  grind
 have h3:(u % W*4294967296+dig x j) / W<4294967296:=by
  rw [Nat.div_lt_iff_lt_mul hW]
  have:(u % W+1)*4294967296≤W*4294967296:=Nat.mul_le_mul_right _ hr
  rw [Nat.mul_comm 4294967296 W]
  omega
 refine⟨?_,?_,h3⟩
 ·have:dig (x / W) j=(x / 4294967296 ^ j) / W % 4294967296:=by
   unfold dig;rw [Nat.div_div_eq_div_mul,Nat.div_div_eq_div_mul,Nat.mul_comm]
  rw [this,e2,Nat.add_comm,Nat.add_mul_div_right _ _ hW,Nat.add_mul_mod_self_right,Nat.mod_eq_of_lt h3]
 ·rw [e2,Nat.add_comm,Nat.add_mul_mod_self_right]
theorem or_join (r d:Nat) (hr:r<4294967296) (hd:d<4294967296):bits BinOp.or IntKind.u64 ((r:Int)*4294967296) (d:Int)=((r*4294967296+d:Nat):Int):=by
 have e:((r:Int)*4294967296)=((r*4294967296:Nat):Int):=by omega
 rw [e,u64_or_nat _ _ (by omega) (by omega)]
 congr 1
 exact nat_join 32 _ _ (by omega) (by omega)
set_option maxHeartbeats 1000000 in
set_option maxRecDepth 100000 in
theorem byWord_own (u:Value) (x:Nat) (W:Nat) (w:World) (hu:Mag w u x) (hW:0<W) (hW2:W<4294967296) (bx:nl x≤1099511627776) :
  Calls Tryz.prog 143 #[u,.int .u32 W] w fun e w'=>∃ r,e = .returned (.tuple #[r,.int .u32 (x % W:Nat)])∧Mag w' r (x / W)∧(∀ k,r.ownBlock=some k→k=w.heap.size)∧Below w.heap.size w w':=by
 obtain⟨a1,b1,o1,c1,rfl,i1⟩:=hu
 have hmk:=run_make_row' (P:=Tryz.prog) 110 166 (.int .u32 0) 4 Tryz.underlying110 info32 rfl .i64 .i64 (nl x) (by omega) (by omega)
 have hrow:=World.rowIs_made w (.int .u32 0) (nl x) 166
 have hbel:Below w.heap.size w (w.alloc (.cells (madeCells #[.int .u32 0] (nl x)) 166)):=(Below.refl _ _).alloc (Nat.le_refl _) _
 have HR:=Lib.hid hrow
 have HB:=Lib.hid hbel
 clear hrow hbel
 go_enter Tryz.func143,Tryz.ntmps143
 go_wp2
 go_loopw [7,8] (fun rs i wr=>∃ (k r:Nat) (f:Nat→Nat),k≤nl x∧i = .int .i64 ((k:Int) - 1)∧rs = .int .u64 r∧r<W∧r=(x / 4294967296 ^ k) % W∧wr.rowIs w.heap.size 166 (nl x) (fun j=>.int .u32 (f j:Nat))∧
   (∀ j,k≤j→j<nl x→f j=dig (x / W) j)∧Below w.heap.size w wr) (fun _ i _=>(intOf i+1).toNat)
 case atStart=>exact⟨nl x,0,fun _=>0,Nat.le_refl _,rfl,rfl,hW,by rw [Nat.div_eq_of_lt (lt_pow_nl x)];simp,HR.out,fun j h1 h2=>by omega,HB.out⟩
 case round=>
  obtain⟨k,r,f,hk,rfl,rfl,hrW,hr,hrow,hf,hb⟩:=hrel
  have HRV:=Lib.hid hr
  have HF:=Lib.hid hf
  clear hr hf hmk
  by_cases h0:0<k
  ·have j1:=i1.mono hb (Nat.le_refl _)
   have hc1:=j1.cell (k - 1) (by omega)
   have hx1:=fun W=>ix32 j1 (↑k - 1) (by omega) (by omega) (nl x) c1 W
   have en:((k:Int) - 1).toNat=k - 1:=by omega
   rw [en] at hx1
   clear en
   simp only [lc] at hc1
   have hd:=dig_lt x (k - 1)
   have hor:=or_join r (dig x (k - 1)) (by omega) hd
   have hcell:=hrow.cell (i:=k - 1) (by omega)
   have hfz:=hrow.frozen (k - 1)
   clear j1
   have hs:=word_step x W k hW h0
   rw [←HRV.out] at hs
   have HS:=Lib.hid hs
   clear hs
   go_wp2
   have hq1:((r*4294967296+dig x (k - 1):Nat):Int) / (W:Int)<4294967296:=by
    have:=HS.out.2.2
    rw [←Int.natCast_ediv];omega
   have hq0:0≤((r*4294967296+dig x (k - 1):Nat):Int) / (W:Int):=Int.ediv_nonneg (by omega) (by omega)
   have hq2:((r*4294967296+dig x (k - 1):Nat):Int) % (W:Int)<W:=Int.emod_lt_of_pos _ (by omega)
   have hq3:0≤((r*4294967296+dig x (k - 1):Nat):Int) % (W:Int):=Int.emod_nonneg _ (by omega)
   have et:((r:Int)*4294967296+(dig x (k - 1):Int))=((r*4294967296+dig x (k - 1):Nat):Int):=by omega
   rw [et]
   clear et hor
   have ht2:r*4294967296+dig x (k - 1)≤W*4294967296:=by omega
   generalize ht:r*4294967296+dig x (k - 1)=t at *
   have HT:=Lib.hid ht
   clear ht
   go_region
   go_wp2
   go_roundw
   case rel=>
    have hs:=HS.out
    exact⟨k - 1,t % W,upd f (k - 1) (t / W),by omega,by congr 1;omega,by congr 1,Nat.mod_lt _ hW,hs.2.1.symm,
     (row_upd hrow _ _ (by congr 1)).drew,
     (fun j h1 h2=>by
      unfold upd;split
      ·rename_i e;rw [e];exact hs.1.symm
      ·exact HF.out j (by omega) h2),(hb.setCell (Nat.le_refl _) _).drew⟩
   case measure=>simp [intOf];omega
  ·obtain rfl:k=0:=by omega
   have hf:∀ j,j<nl x→f j=dig (x / W) j:=fun j hj=>HF.out j (Nat.zero_le _) hj
   have hval:valF f (nl x)=x / W:=by
    rw [valF_congr hf,valF_dig]
    exact Nat.mod_eq_of_lt (Nat.lt_of_le_of_lt (Nat.div_le_self _ _) (lt_pow_nl x))
   have hlt:∀ j,j<nl x→f j<4294967296:=fun j hj=>by rw [hf j hj];exact dig_lt _ _
   have HVAL:=Lib.hid hval
   have HLT:=Lib.hid hlt
   clear hf hval hlt
   go_wp2_with (go_at_call 116;refine (trim_any _ w.heap.size 0 _ _ f _ (by omega) (IsSl.of_row hrow (Nat.le_refl _) _ (Nat.le_refl _))).mono ?_;rintro e w' ⟨rfl,rfl⟩)
   go_ret2
   refine⟨.slice (some ⟨w.heap.size,0,none⟩) (trimN f (nl x)) (nl x),?_,?_,fun k e=>(Option.some.inj e).symm,hb⟩
   ·have:=HRV.out
    simp at this
    subst this
    rfl
   ·rw [←HVAL.out]
    exact trim_mag HLT.out (IsSl.of_row hrow (Nat.le_refl _) _ (Nat.le_refl _))
theorem byWord_any (u:Value) (x:Nat) (W:Nat) (w:World) (hu:Mag w u x) (hW:0<W) (hW2:W<4294967296) (bx:nl x≤1099511627776) :
  Calls Tryz.prog 143 #[u,.int .u32 W] w fun e w'=>∃ r,e = .returned (.tuple #[r,.int .u32 (x % W:Nat)])∧Mag w' r (x / W)∧Below w.heap.size w w':=by
 refine (byWord_own u x W w hu hW hW2 bx).mono ?_
 rintro e w' ⟨r,h1,h2,_,h3⟩
 exact⟨r,h1,h2,h3⟩
end Go.Proofs.YtolkchkedieppaaGreat
namespace Go.Proofs.YtolkchkedieppaaGreat
theorem guess_high {U y g v1 v2 rest top u2 P q B:Nat} (hP:0<P) (hU:U<(top*B+u2+1)*P) (hy:(v1*B+v2)*P≤y)
  (htop:g*v1+rest=top) (htest:rest*B+u2<g*v2) (hq:q*y≤U):q<g:=by
 rcases Nat.lt_or_ge q g with h | h
 ·exact h
 ·exfalso
  have h1:g*((v1*B+v2)*P)≤U:=Nat.le_trans (Nat.mul_le_mul_left _ hy) (Nat.le_trans (Nat.mul_le_mul_right _ h) hq)
  have h2:g*(v1*B+v2)*P<(top*B+u2+1)*P:=by
   rw [Nat.mul_assoc];exact Nat.lt_of_le_of_lt h1 hU
  have h3:=Nat.lt_of_mul_lt_mul_right h2
  have h4:g*(v1*B+v2)=(g*v1)*B+g*v2:=by grind
  rw [h4,←htop] at h3
  have h5:(g*v1+rest)*B=g*v1*B+rest*B:=by grind
  omega
theorem guess_low {U y g v1 v2 rest top u2 P q B:Nat} (hP:0<P) (hU:(top*B+u2)*P≤U) (hy:y<(v1*B+v2+1)*P)
  (hyl:B*P≤y) (htop:g*v1+rest=top) (htest:g*v2≤rest*B+u2) (hg:g<B) (hq:U<(q+1)*y):g≤q+1:=by
 rcases Nat.lt_or_ge (q+1) g with h | h
 ·exfalso
  have h1:(q+2)*y≤g*y:=Nat.mul_le_mul_right _ h
  have h2:g*y≤g*((v1*B+v2+1)*P):=Nat.mul_le_mul_left _ (Nat.le_of_lt hy)
  have h3:g*((v1*B+v2+1)*P)=((g*v1)*B+g*v2)*P+g*P:=by grind
  have h4:(g*v1*B+g*v2)≤top*B+u2:=by
   rw [←htop]
   have:(g*v1+rest)*B=g*v1*B+rest*B:=by grind
   omega
  have h5:=Nat.mul_le_mul_right P h4
  have h6:g*P≤B*P:=Nat.mul_le_mul_right _ (Nat.le_of_lt hg)
  have h7:(q+2)*y=(q+1)*y+y:=by grind
  omega
 ·exact h
theorem guess_first {U y v1 top P q:Nat} (hP:0<P) (hv:0<v1) (hU:U<(top+1)*P) (hy:v1*P≤y) (hq:q*y≤U):q≤top / v1:=by
 rw [Nat.le_div_iff_mul_le hv]
 have h1:q*v1*P<(top+1)*P:=by
  rw [Nat.mul_assoc];exact Nat.lt_of_le_of_lt (Nat.le_trans (Nat.mul_le_mul_left _ hy) hq) hU
 have:=Nat.lt_of_mul_lt_mul_right h1
 omega
theorem mulsub_step (w u g y c b v uk l c' wk b' P B:Nat) (h:w+g*y=u+(c+b)*P) (ht:g*v+c=l+c'*B) (hs:wk+l+b=uk+B*b') :
  (w+wk*P)+g*(y+v*P)=(u+uk*P)+(c'+b')*(P*B):=by
 have e1:g*(y+v*P)=g*y+g*v*P:=by grind
 have e2:(wk+l+b)*P=(uk+B*b')*P:=by rw [hs]
 have e3:(g*v+c)*P=(l+c'*B)*P:=by rw [ht]
 grind
theorem valF_split (f:Nat→Nat) (m n:Nat):valF f (m+n)=valF f m+valF (fun i=>f (m+i)) n*4294967296 ^ m:=by
 induction n with
 | zero=>simp [valF]
 | succ n ih=>
  rw [←Nat.add_assoc]
  simp only [valF,ih,Nat.add_mul,Nat.pow_add]
  have:f (m+n)*(4294967296 ^ m*4294967296 ^ n)=f (m+n)*4294967296 ^ n*4294967296 ^ m:=by ac_rfl
  omega
theorem valF_top2 (f:Nat→Nat) (n:Nat):valF f (n+2)=valF f n+(f (n+1)*4294967296+f n)*4294967296 ^ n:=by
 simp only [valF,Nat.pow_succ]
 have:f (n+1)*(4294967296 ^ n*4294967296)=f (n+1)*4294967296*4294967296 ^ n:=by ac_rfl
 rw [Nat.add_mul];omega
theorem valF_top3 (f:Nat→Nat) (n:Nat):valF f (n+3)=valF f n+((f (n+2)*4294967296+f (n+1))*4294967296+f n)*4294967296 ^ n:=by
 rw [show n+3=(n+1)+2 from rfl,valF_top2,show n+1+1=n+2 from rfl]
 simp only [valF,Nat.pow_succ]
 have:(f (n+2)*4294967296+f (n+1))*(4294967296 ^ n*4294967296)=(f (n+2)*4294967296+f (n+1))*4294967296*4294967296 ^ n:=by ac_rfl
 rw [this,Nat.add_mul _ _ (4294967296 ^ n)];omega
theorem knuth_facts (F:Nat→Nat) (k y:Nat) (hF:∀ i,i<k+3→F i<4294967296) (hy:nl y=k+2) (hU:valF F (k+3)<y*4294967296) :
  ((F (k+2)*4294967296+F (k+1))*4294967296+F k)*4294967296 ^ k≤valF F (k+3)∧
  valF F (k+3)<((F (k+2)*4294967296+F (k+1))*4294967296+F k+1)*4294967296 ^ k∧
  (dig y (k+1)*4294967296+dig y k)*4294967296 ^ k≤y∧y<(dig y (k+1)*4294967296+dig y k+1)*4294967296 ^ k∧
  4294967296*4294967296 ^ k≤y∧
  F (k+2)*4294967296+F (k+1)≤dig y (k+1)*4294967296+dig y k:=by
 have e1:=valF_top3 F k
 have h1:=valF_lt F k (fun i hi=>hF i (by omega))
 have e2:=valF_nl y
 rw [hy,valF_top2] at e2
 have h2:=valF_lt (dig y) k (fun i hi=>dig_lt y i)
 have hp:=Bpow_pos k
 have hl:4294967296 ^ (k+1)≤y:=by
  rw [←lt_nl,hy];omega
 rw [Nat.pow_succ,Nat.mul_comm] at hl
 have a1:∀ z:Nat,(z+1)*4294967296 ^ k=z*4294967296 ^ k+4294967296 ^ k:=fun z=>by rw [Nat.add_mul,Nat.one_mul]
 have c2:(dig y (k+1)*4294967296+dig y k)*4294967296 ^ k≤y:=by omega
 have c3:y<(dig y (k+1)*4294967296+dig y k+1)*4294967296 ^ k:=by rw [a1 (dig y (k+1)*4294967296+dig y k)];omega
 refine⟨by rw [e1];exact Nat.le_add_left _ _,by rw [e1,a1 ((F (k+2)*4294967296+F (k+1))*4294967296+F k)];omega,c2,c3,hl,?_⟩
 rcases Nat.lt_or_ge (dig y (k+1)*4294967296+dig y k) (F (k+2)*4294967296+F (k+1)) with h | h
 ·exfalso
  have q1:(dig y (k+1)*4294967296+dig y k+1)*4294967296*4294967296 ^ k≤(F (k+2)*4294967296+F (k+1))*4294967296*4294967296 ^ k:=Nat.mul_le_mul_right _ (Nat.mul_le_mul_right _ h)
  have q2:(F (k+2)*4294967296+F (k+1))*4294967296*4294967296 ^ k≤valF F (k+3):=by
   rw [e1,Nat.add_mul _ (F k)];exact Nat.le_trans (Nat.le_add_right _ _) (Nat.le_add_left _ _)
  have q3:(dig y (k+1)*4294967296+dig y k+1)*4294967296*4294967296 ^ k=(dig y (k+1)*4294967296+dig y k+1)*4294967296 ^ k*4294967296:=by ac_rfl
  have q4:y*4294967296<(dig y (k+1)*4294967296+dig y k+1)*4294967296 ^ k*4294967296:=Nat.mul_lt_mul_of_pos_right c3 (by omega)
  rw [←q3] at q4
  exact Nat.lt_irrefl _ (Nat.lt_of_lt_of_le (Nat.lt_trans hU q4) (Nat.le_trans q1 q2))
 ·exact h
end Go.Proofs.YtolkchkedieppaaGreat
namespace Go.Proofs.YtolkchkedieppaaGreat
open Go.RowKit
theorem shl_in (d s p:Nat) (hp:p=2 ^ s) (hp2:p≤2147483648) (hd:d<4294967296):IntKind.u64.wrap ((d:Int)*2 ^ s)=((d*p:Nat):Int):=by
 have e:((2:Int) ^ s)=((p:Nat):Int):=by rw [hp];simp
 have h1:d*p≤4294967295*2147483648:=Nat.mul_le_mul (by omega) hp2
 rw [e,←Int.natCast_mul]
 exact IntWalk.u64_in _ ⟨by omega,by omega⟩
theorem or_low (f d s p:Nat) (hp:p=2 ^ s) (hs:s<32) (hp2:p≤2147483648) (hf:f<p) :
  bits BinOp.or IntKind.u32 (f:Int) (((d*p:Nat):Int) % 4294967296)=((f+d*p % 4294967296:Nat):Int):=by
 have e:(((d*p:Nat):Int) % 4294967296)=((d*p % 4294967296:Nat):Int):=by omega
 rw [e,u32_or_nat _ _ (by omega) (Nat.mod_lt _ (by omega)),Nat.or_comm]
 congr 1
 rw [nat_join s _ _ ?_ (by omega),Nat.add_comm]
 rw [←hp]
 have h:4294967296=p*2 ^ (32 - s):=by
  rw [hp,←Nat.pow_add,show s+(32 - s)=32 from by omega]
 rw [h,Nat.mul_comm d p,Nat.mul_mod_mul_left,Nat.mul_mod_right]
theorem up_step (v xk d p fk P:Nat) (h:v+fk*P=xk*p) :
  v+(fk+d*p % 4294967296)*P+d*p / 4294967296*(P*4294967296)=(xk+d*P)*p:=by
 have e:=Nat.div_add_mod (d*p) 4294967296
 generalize d*p / 4294967296=q at *
 generalize d*p % 4294967296=r at *
 have e2:(xk+d*P)*p=xk*p+d*p*P:=by grind
 rw [e2,←h,←e]
 grind
theorem up_hi (d p:Nat) (hd:d<4294967296) (hp:0<p):d*p / 4294967296<p:=by
 rw [Nat.div_lt_iff_lt_mul (by omega),Nat.mul_comm p]
 exact Nat.mul_lt_mul_of_pos_right hd hp
set_option maxHeartbeats 1000000 in
theorem up_any (u:Value) (x s:Nat) (w:World) (hu:Mag w u x) (hs:s<32) (bx:nl x≤1099511627776) :
  Calls Tryz.prog 145 #[u,.int .i64 s] w fun e w'=>e = .returned (.slice (some ⟨w.heap.size,0,none⟩) (nl x+1) (nl x+1))∧
   w'.rowIs w.heap.size 166 (nl x+1) (lc (x*2 ^ s))∧Below w.heap.size w w':=by
 obtain⟨a1,b1,o1,c1,rfl,i1⟩:=hu
 have hmk:=run_make_row' (P:=Tryz.prog) 110 166 (.int .u32 0) 4 Tryz.underlying110 info32 rfl .i64 .i64 (nl x+1) (by omega) (by omega)
 have ec:((nl x+1:Nat):Int)=(nl x:Int)+1:=by omega
 rw [ec] at hmk
 clear ec
 have hrow:=World.rowIs_made w (.int .u32 0) (nl x+1) 166
 have hbel:Below w.heap.size w (w.alloc (.cells (madeCells #[.int .u32 0] (nl x+1)) 166)):=(Below.refl _ _).alloc (Nat.le_refl _) _
 have HR:=Lib.hid hrow
 have HB:=Lib.hid hbel
 clear hrow hbel
 have hp1:1≤2 ^ s:=Nat.one_le_two_pow
 have hp2:2 ^ s≤2147483648:=by
  have:=Nat.pow_le_pow_right (n:=2) (by omega) (show s≤31 by omega)
  omega
 obtain⟨p,hp⟩:∃ p,p=2 ^ s:=⟨_,rfl⟩
 rw [←hp] at hp1 hp2 ⊢
 have HP:=Lib.hid hp
 clear hp
 go_enter Tryz.func145,Tryz.ntmps145
 go_wp2
 go_loopw [15] (fun i wr=>∃ (k:Nat) (f:Nat→Nat),k≤nl x∧i = .int .i64 k∧wr.rowIs w.heap.size 166 (nl x+1) (fun j=>.int .u32 (f j:Nat))∧
   (∀ j,j<k→f j<4294967296)∧f k<p∧(∀ j,k<j→f j=0)∧valF f (k+1)=valF (dig x) k*p∧Below w.heap.size w wr) (fun i _=>nl x - (intOf i).toNat)
 case atStart=>exact⟨0,fun _=>0,Nat.zero_le _,rfl,HR.out,fun j hj=>by omega,hp1,fun _ _=>rfl,by simp [valF],HB.out⟩
 case round=>
  obtain⟨k,f,hk,rfl,hrow,hf,hfk,hz,hv,hb⟩:=hrel
  have HV:=Lib.hid hv
  have HF:=Lib.hid hf
  have HZ:=Lib.hid hz
  clear hv hf hz hmk
  by_cases hlt:k<nl x
  ·have j1:=i1.mono hb (Nat.le_refl _)
   have hc1:=j1.cell k hlt
   have hx1:=fun W=>ix32 j1 (k:Int) (by omega) (by omega) (nl x) c1 W
   simp only [Int.toNat_natCast] at hx1
   simp only [lc] at hc1
   have hdx:=dig_lt x k
   have hc:=hrow.cell (i:=k) (by omega)
   have hcb:=hrow.cell (i:=k+1) (by omega)
   have hfz:=hrow.frozen k
   have hfz1:=hrow.frozen (k+1)
   clear j1
   go_wp2
   have HW:=Lib.hid (shl_in (dig x k) s p HP.out hp2 hdx)
   have HO:=Lib.hid (or_low (f k) (dig x k) s p HP.out hs hp2 hfk)
   have HH:=Lib.hid (up_hi (dig x k) p hdx hp1)
   go_roundw
   case rel=>
    rw [HW.out,HO.out]
    have hh:=HH.out
    refine⟨k+1,upd (upd f k (f k+dig x k*p % 4294967296)) (k+1) (dig x k*p / 4294967296),by omega,by go_num,row_upd (row_upd hrow _ _ rfl) _ _ (by congr 1;omega),?_,by rw [upd_self];exact hh,?_,?_,
     (hb.setCell (Nat.le_refl _) _).setCell (Nat.le_refl _) _⟩
    ·intro j hj
     unfold upd
     rw [if_neg (by omega)]
     split
     ·have hr:dig x k*p % 4294967296+p≤4294967296:=by
       have h:4294967296=p*2 ^ (32 - s):=by
        rw [HP.out,←Nat.pow_add,show s+(32 - s)=32 from by omega]
       have h2:dig x k*p % 4294967296=p*(dig x k % 2 ^ (32 - s)):=by
        rw [h,Nat.mul_comm _ p,Nat.mul_mod_mul_left]
       have h3:dig x k % 2 ^ (32 - s)+1≤2 ^ (32 - s):=Nat.mod_lt _ (Nat.two_pow_pos _)
       have h4:=Nat.mul_le_mul_left p h3
       rw [←h,Nat.mul_add,Nat.mul_one] at h4
       omega
      omega
     ·exact HF.out j (by omega)
    ·intro j hj
     unfold upd
     rw [if_neg (by omega),if_neg (by omega)]
     exact HZ.out j (by omega)
    ·have h:=HV.out
     simp only [valF] at h
     have h2:=up_step _ _ (dig x k) _ _ _ h
     rw [valF,upd_self,valF_upd _ _ _ _ (Nat.le_refl _),valF,upd_self,valF_upd _ _ _ _ (Nat.le_refl _),Nat.pow_succ]
     simp only [valF]
     exact h2
   case measure=>simp [intOf];omega
  ·obtain rfl:k=nl x:=by omega
   go_wp2
   go_ret
   refine⟨rfl,?_,hb⟩
   have hall:∀ j,j<nl x+1→f j<4294967296:=fun j hj=>by
    by_cases e:j=nl x
    ·rw [e];omega
    ·exact HF.out j (by omega)
   have hval:valF f (nl x+1)=x*p:=by rw [HV.out,valF_nl]
   refine hrow.congr (fun j hj=>?_)
   rw [←hval,lc,dig_valF f _ hall j hj]
end Go.Proofs.YtolkchkedieppaaGreat
namespace Go.Proofs.YtolkchkedieppaaGreat
open Go.RowKit
theorem down_dig (x k s p:Nat) (hp:p=2 ^ s) (hs:s<32):dig (x / p) k=(dig x k+dig x (k+1)*4294967296) / p % 4294967296:=by
 have hp0:0<p:=by rw [hp];exact Nat.two_pow_pos _
 have h:4294967296=p*2 ^ (32 - s):=by
  rw [hp,←Nat.pow_add,show s+(32 - s)=32 from by omega]
 have e1:dig (x / p) k=(x / 4294967296 ^ k) / p % 4294967296:=by
  unfold dig;rw [Nat.div_div_eq_div_mul,Nat.div_div_eq_div_mul,Nat.mul_comm]
 have e2:dig x k=(x / 4294967296 ^ k) % 4294967296:=rfl
 have e3:dig x (k+1)=(x / 4294967296 ^ k) / 4294967296 % 4294967296:=by
  unfold dig;rw [Nat.pow_succ,Nat.div_div_eq_div_mul]
 rw [e1,e2,e3]
 generalize x / 4294967296 ^ k=u
 have d1:=Nat.div_add_mod u 4294967296
 have d2:=Nat.div_add_mod (u / 4294967296) 4294967296
 generalize hr:u % 4294967296+u / 4294967296 % 4294967296*4294967296=r
 have e4:u=p*(2 ^ (32 - s)*4294967296*(u / 4294967296 / 4294967296))+r:=by
  have:p*(2 ^ (32 - s)*4294967296*(u / 4294967296 / 4294967296))=4294967296*(4294967296*(u / 4294967296 / 4294967296)):=by
   calc p*(2 ^ (32 - s)*4294967296*(u / 4294967296 / 4294967296))=(p*2 ^ (32 - s))*(4294967296*(u / 4294967296 / 4294967296)):=by ac_rfl
    _=_:=by rw [←h]
  rw [this]
  omega
 have e5:u / p=2 ^ (32 - s)*4294967296*(u / 4294967296 / 4294967296)+r / p:=by
  conv=>lhs;rw [e4]
  rw [Nat.add_comm,Nat.add_mul_div_left _ _ hp0,Nat.add_comm]
 rw [e5,Nat.add_comm]
 have e6:2 ^ (32 - s)*4294967296*(u / 4294967296 / 4294967296)=4294967296*(2 ^ (32 - s)*(u / 4294967296 / 4294967296)):=by ac_rfl
 rw [e6,Nat.add_mul_mod_self_left]
theorem or_hi (d e:Nat) (hd:d<4294967296) (he:e<4294967296):bits BinOp.or IntKind.u64 (d:Int) ((e:Int)*4294967296)=((d+e*4294967296:Nat):Int):=by
 have e1:((e:Int)*4294967296)=((e*4294967296:Nat):Int):=by omega
 rw [e1,u64_or_nat _ _ (by omega) (by omega),Nat.or_comm]
 congr 1
 rw [nat_join 32 _ _ (by omega) (by omega),Nat.add_comm]
theorem two_pow_cast (s p:Nat) (hp:p=2 ^ s):((2:Int) ^ s)=(p:Int):=by rw [hp];simp
set_option maxHeartbeats 1000000 in
theorem down_any (u:Value) (x s:Nat) (w:World) (hu:Mag w u x) (hs:s<32) (bx:nl x≤1099511627776) :
  Calls Tryz.prog 147 #[u,.int .i64 s] w fun e w'=>∃ r,e = .returned r∧Mag w' r (x / 2 ^ s)∧Below w.heap.size w w':=by
 obtain⟨a1,b1,o1,c1,rfl,i1⟩:=hu
 have hmk:=run_make_row' (P:=Tryz.prog) 110 166 (.int .u32 0) 4 Tryz.underlying110 info32 rfl .i64 .i64 (nl x) (by omega) (by omega)
 have hrow:=World.rowIs_made w (.int .u32 0) (nl x) 166
 have hbel:Below w.heap.size w (w.alloc (.cells (madeCells #[.int .u32 0] (nl x)) 166)):=(Below.refl _ _).alloc (Nat.le_refl _) _
 have HR:=Lib.hid hrow
 have HB:=Lib.hid hbel
 clear hrow hbel
 obtain⟨p,hp⟩:∃ p,p=2 ^ s:=⟨_,rfl⟩
 rw [←hp]
 have HP:=Lib.hid hp
 clear hp
 go_enter Tryz.func147,Tryz.ntmps147
 go_wp2
 go_loopw [13] (fun i wr=>∃ (k:Nat) (f:Nat→Nat),k≤nl x∧i = .int .i64 k∧wr.rowIs w.heap.size 166 (nl x) (fun j=>.int .u32 (f j:Nat))∧
   (∀ j,j<k→f j=dig (x / p) j)∧Below w.heap.size w wr) (fun i _=>nl x - (intOf i).toNat)
 case atStart=>exact⟨0,fun _=>0,Nat.zero_le _,rfl,HR.out,fun j hj=>by omega,HB.out⟩
 case round=>
  obtain⟨k,f,hk,rfl,hrow,hf,hb⟩:=hrel
  have HF:=Lib.hid hf
  clear hf hmk
  by_cases hlt:k<nl x
  ·have j1:=i1.mono hb (Nat.le_refl _)
   have hc1:=j1.cell k hlt
   have hx1:=fun W=>ix32 j1 (k:Int) (by omega) (by omega) (nl x) c1 W
   simp only [Int.toNat_natCast] at hx1
   simp only [lc] at hc1
   have hdx:=dig_lt x k
   have hc:=hrow.cell (i:=k) (by omega)
   have hfz:=hrow.frozen k
   have HD:=Lib.hid (down_dig x k s p HP.out hs)
   have HT:=Lib.hid (two_pow_cast s p HP.out)
   by_cases hlt1:k+1<nl x
   ·have hc2:=j1.cell (k+1) hlt1
    have hx2:=fun W=>ix32 j1 ((k:Int)+1) (by omega) (by omega) (nl x) c1 W
    have en:((k:Int)+1).toNat=k+1:=by omega
    rw [en] at hx2
    clear en
    simp only [lc] at hc2
    have hdx2:=dig_lt x (k+1)
    have hor:=or_hi (dig x k) (dig x (k+1)) hdx hdx2
    clear j1
    go_wp2
    go_roundw
    case rel=>
     refine⟨k+1,upd f k (dig (x / p) k),by omega,by go_num,row_upd hrow _ _ ?_,?_,hb.setCell (Nat.le_refl _) _⟩
     ·rw [HT.out,HD.out];congr 1
     ·intro j hj
      unfold upd
      split
      ·rename_i e;rw [e]
      ·exact HF.out j (by omega)
    case measure=>simp [intOf];omega
   ·clear j1
    go_wp2
    go_roundw
    case rel=>
     refine⟨k+1,upd f k (dig (x / p) k),by omega,by go_num,row_upd hrow _ _ ?_,?_,hb.setCell (Nat.le_refl _) _⟩
     ·rw [HT.out,HD.out,dig_zero_of_lt (lt_pow_nl x) (show nl x≤k+1 by omega)];congr 1
     ·intro j hj
      unfold upd
      split
      ·rename_i e;rw [e]
      ·exact HF.out j (by omega)
    case measure=>simp [intOf];omega
  ·obtain rfl:k=nl x:=by omega
   have hval:valF f (nl x)=x / p:=by
    rw [valF_congr HF.out,valF_dig]
    exact Nat.mod_eq_of_lt (Nat.lt_of_le_of_lt (Nat.div_le_self _ _) (lt_pow_nl x))
   have hlt:∀ j,j<nl x→f j<4294967296:=fun j hj=>by rw [HF.out j hj];exact dig_lt _ _
   have HVAL:=Lib.hid hval
   have HLT:=Lib.hid hlt
   clear hval hlt
   go_wp2_with (go_at_call 116;refine (trim_any _ w.heap.size 0 _ _ f _ (by omega) (IsSl.of_row hrow (Nat.le_refl _) _ (Nat.le_refl _))).mono ?_;rintro e w' ⟨rfl,rfl⟩)
   go_ret
   refine⟨.slice (some ⟨w.heap.size,0,none⟩) (trimN f (nl x)) (nl x),rfl,?_,hb⟩
   rw [←HVAL.out]
   exact trim_mag HLT.out (IsSl.of_row hrow (Nat.le_refl _) _ (Nat.le_refl _))
end Go.Proofs.YtolkchkedieppaaGreat
