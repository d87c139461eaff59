import Derived.Test.YtgmopcncbpdniaaGreatKShelf
import Derived.Test.YtgmopcncbpdniaaGreatKInt5
import Derived.Test.YtgmopcncbpdniaaGreatKFloat3
import Derived.Test.YtgmopcncbpdniaaGreatKReach2
import Derived.Deep.DeepCutAuto
import Derived.Deep.CutBlock
import Derived.BigRegion
set_option linter.unusedVariables false
set_option linter.unusedSimpArgs false
namespace Go.Proofs.YtgmopcncbpdniaaGreat
open Go.RowKit
attribute [local go_sem ↓] Go.wp_at_zero Go.wp_at_succ
theorem bel4 {w w':World} {g o:Nat} {x y z u:Value} (hb:Below w.heap.size w w') (h:Rd4 w g o x y z u) (hl:g<w.heap.size):Rd4 w' g o x y z u:=h.below hb hl
theorem noInt_zsl:∀ u ∈ (Value.slice none 0 0).cells.toList,NoInt u:=fun u hu=>by
 have e:(Value.slice none 0 0).cells = #[.slice none 0 0]:=by kernel_rfl
 rw [e] at hu;simp at hu;subst hu;exact noInt_slice _ _ _
theorem noInt_one (a:Option Addr) (n c:Nat):∀ u ∈ [Value.slice a n c],NoInt u:=fun u hu=>by simp at hu;subst hu;exact noInt_slice _ _ _
theorem sys_none {n i:Nat} {cash:Nat->Int} {d:Nat->Nat->Int} {F fr:Nat->Bool} {one:Int} (hg:fr i=false) (hF:F i=false) (j:Nat):updQ (fun j=>if j=i then 1 else 0) n (totQ n d i) j=sysQ n cash d F fr one i j:=by
 unfold updQ sysQ rhsQ;by_cases e:j=n
 ·simp [e,hg,hF]
 ·simp [e,hg,hF];grind
theorem sys_one {n i:Nat} {cash:Nat->Int} {d:Nat->Nat->Int} {F fr:Nat->Bool} {one:Int} (hg:fr i=true) (ho:(i:Int)=one) (j:Nat):updQ (fun j=>if j=i then 1 else 0) n 1 j=sysQ n cash d F fr one i j:=by
 unfold updQ sysQ rhsQ;by_cases e:j=n
 ·simp [e,hg,ho]
 ·simp [e,hg];grind
theorem sys_free {n i:Nat} {cash:Nat->Int} {d:Nat->Nat->Int} {F fr:Nat->Bool} {one:Int} (hg:fr i=true) (ho:¬ (i:Int)=one) (hi:i<n) (j:Nat):(if j=i then (1:Rat) else 0)=sysQ n cash d F fr one i j:=by
 unfold sysQ rhsQ;by_cases e:j=n
 ·have:¬ j=i:=by omega
  simp [e,hg,ho];omega
 ·simp [e,hg];grind
theorem sys_fail {n i:Nat} {cash:Nat->Int} {d:Nat->Nat->Int} {F fr:Nat->Bool} {one:Int} (hg:fr i=false) (hF:F i=true) (j:Nat) (hj:j<n+1):midS n cash d i n j=sysQ n cash d F fr one i j:=by
 unfold midS sysQ rhsQ;by_cases e:j=n
 ·simp [e,hg,hF]
 ·have:j<n:=by omega
  simp [e,hg,hF,this]
theorem mid_start {n i:Nat} {cash:Nat->Int} {d:Nat->Nat->Int} (j:Nat):updQ (fun j=>if j=i then 1 else 0) n (cash i:Rat) j=midS n cash d i 0 j:=by
 unfold updQ midS cashQ;by_cases e:j=n
 ·simp [e]
 ·simp [e];grind
theorem mid_step {n i k:Nat} {cash:Nat->Int} {d:Nat->Nat->Int} {x:Rat} (hk:k<n) (hx:x=shQ n d k i) (j:Nat):updQ (midS n cash d i k) k (midS n cash d i k k - x) j=midS n cash d i (k+1) j:=by
 subst hx;unfold updQ midS;by_cases e:j=n
 ·have:¬ j=k:=by omega
  simp [e];omega
 ·by_cases e2:j=k
  ·subst e2;simp [e];grind
  ·have:(j<k+1)↔j<k:=by omega
   simp [e,e2,this]
theorem mid_skip {n i k:Nat} {cash:Nat->Int} {d:Nat->Nat->Int} (hx:shQ n d k i=0) (j:Nat):midS n cash d i k j=midS n cash d i (k+1) j:=by
 unfold midS;by_cases e2:j=k
 ·subst e2;simp [hx]
 ·have:(j<k+1)↔j<k:=by omega
  simp [this]
theorem mid_bound (k j:Nat):updN (fun j=>if j<k then 11 else 5) k 11 j<=if j<k+1 then 11 else 5:=by
 unfold updN;by_cases e:j=k
 ·subst e;simp
 ·by_cases e2:j<k
  ·simp [e,e2,show j<k+1 by omega]
  ·simp [e,e2];split <;> omega
theorem cmpR_nil (a:Rat):cmpR a 0=0↔a=0:=by
 unfold cmpR;by_cases h:a<0
 ·rw [if_pos h];constructor
  ·intro e;omega
  ·intro e;rw [e] at h;exact absurd h Rat.lt_irrefl
 ·rw [if_neg h];by_cases h2:a=0
  ·rw [if_pos h2];simp [h2]
  ·rw [if_neg h2];constructor
   ·intro e;omega
   ·intro e;exact absurd e h2
theorem sg_nil {a:Rat} (h:a=0):(cmpR a 0 == 0)=true:=by simpa using (cmpR_nil a).2 h
theorem sg_not {a:Rat} (h:a≠0):(cmpR a 0 == 0)=false:=by simpa using fun e=>h ((cmpR_nil a).1 e)
def clrK (c i j K:Nat) (r l:Nat):Nat:=if (r<i/\r≠c)\/(r=i/\i≠c/\l<j) then 9*K else K
section
variable {n c i j K:Nat} {M:Nat->Nat->Rat}
theorem clr_zero (r l:Nat):M r l=clrM c 0 0 M r l/\K<=clrK c 0 0 K r l:=by
 unfold clrM clrK;rw [if_neg (by omega),if_neg (by omega)];exact⟨rfl,Nat.le_refl _⟩
theorem clrK_mono {i' j':Nat} {r l:Nat} (h:((r<i/\r≠c)\/(r=i/\i≠c/\l<j))->((r<i'/\r≠c)\/(r=i'/\i'≠c/\l<j'))):clrK c i j K r l<=clrK c i' j' K r l:=by
 unfold clrK;by_cases e:(r<i/\r≠c)\/(r=i/\i≠c/\l<j)
 ·rw [if_pos e,if_pos (h e)];exact Nat.le_refl _
 ·rw [if_neg e];split <;> omega
theorem clr_start (hz:∀ l,l<c->M c l=0) (r l:Nat):clrM c i 0 M r l=clrM c i c M r l/\clrK c i 0 K r l<=clrK c i c K r l:=by
 refine⟨?_,clrK_mono (by omega)⟩;unfold clrM;by_cases e:r<i/\r≠c
 ·rw [if_pos (.inl e),if_pos (.inl e)]
 ·rw [if_neg (by omega)];by_cases e2:r=i/\i≠c/\l<c
  ·rw [if_pos (.inr e2),hz l e2.2.2];grind
  ·rw [if_neg (by omega)]
theorem clr_end (hi:i≠c) (r l:Nat) (hl:l<n+1):clrM c i (n+1) M r l=clrM c (i+1) 0 M r l/\clrK c i (n+1) K r l<=clrK c (i+1) 0 K r l:=by
 refine⟨?_,clrK_mono (by omega)⟩;unfold clrM;by_cases e:r<i+1/\r≠c
 ·rw [if_pos (by omega),if_pos (.inl e)]
 ·rw [if_neg (by omega),if_neg (by omega)]
theorem clr_skip (hz:M i c=0) (r l:Nat):clrM c i 0 M r l=clrM c (i+1) 0 M r l/\clrK c i 0 K r l<=clrK c (i+1) 0 K r l:=by
 refine⟨?_,clrK_mono (by omega)⟩;unfold clrM;by_cases e:r=i
 ·subst e;rw [if_neg (by omega)];by_cases e2:r=c
  ·rw [if_neg (by omega)]
  ·rw [if_pos (.inl ⟨by omega,e2⟩),hz];have:(0:Rat) / M c c*M c l=0:=by rw [Rat.div_def];simp
   rw [this];grind
 ·by_cases e2:r<i/\r≠c
  ·rw [if_pos (.inl e2),if_pos (by omega)]
  ·rw [if_neg (by omega),if_neg (by omega)]
theorem clr_same (r l:Nat):clrM c c 0 M r l=clrM c (c+1) 0 M r l/\clrK c c 0 K r l<=clrK c (c+1) 0 K r l:=by
 refine⟨?_,clrK_mono (by omega)⟩;unfold clrM;by_cases e2:r<c
 ·rw [if_pos (by omega),if_pos (by omega)]
 ·rw [if_neg (by omega),if_neg (by omega)]
theorem clr_at (l:Nat) (hl:j<=l):clrM c i j M i l=M i l/\clrK c i j K i l=K:=by
 unfold clrM clrK;rw [if_neg (by omega),if_neg (by omega)];exact⟨rfl,rfl⟩
theorem clr_piv (hi:i≠c) (l:Nat):clrM c i j M c l=M c l/\clrK c i j K c l=K:=by
 unfold clrM clrK;rw [if_neg (by omega),if_neg (by omega)];exact⟨rfl,rfl⟩
theorem clr_step (hi:i≠c) (r l:Nat):updM (clrM c i j M) i j (M i j - M i c / M c c*M c j) r l=clrM c i (j+1) M r l/\updK (clrK c i j K) i j (8*K+1) r l<=clrK c i (j+1) K r l\/K=0:=by
 by_cases hK:K=0
 ·exact .inr hK
 left;unfold updM updK;by_cases e:r=i/\l=j
 ·obtain⟨rfl,rfl⟩:=e;rw [if_pos ⟨rfl,rfl⟩,if_pos ⟨rfl,rfl⟩];unfold clrM clrK;rw [if_pos (.inr ⟨rfl,hi,by omega⟩),if_pos (.inr ⟨rfl,hi,by omega⟩)];exact⟨rfl,by omega⟩
 ·rw [if_neg e,if_neg e];refine⟨?_,clrK_mono (by omega)⟩;unfold clrM;by_cases e2:(r<i/\r≠c)\/(r=i/\i≠c/\l<j)
  ·rw [if_pos e2,if_pos (by omega)]
  ·rw [if_neg e2,if_neg (by omega)]
end
theorem QRow.base {w:World} {B B' r K:Nat} {v:Value} {p d:Nat->Int} {xs:List Value} (h:QRow w B' v r p d K xs) (hB:B<=B'):QRow w B v r p d K xs:=⟨h.kind,own_base h.own hB,h.val⟩
theorem QRow.drew {w:World} {base r K:Nat} {v:Value} {p d:Nat->Int} {xs:List Value} (h:QRow w base v r p d K xs):QRow w.drew base v r p d K xs:=h.below (jr w).drew
theorem pow_bound {c:Nat} (h:c<=8):1<=9 ^ c/\9 ^ c<=43046721:=⟨Nat.one_le_pow _ _ (by omega),Nat.le_trans (Nat.pow_le_pow_right (by omega) h) (by decide)⟩
theorem row_zero (n k:Nat) (K:Nat->Nat) {w:World} {b:Nat} {x:Rat} (hx:x=0) (h:RowV w b (n+1) (fun j=>j=k\/j<k) (updQ (fun _=>0) k x) (updN K k 5)) (hK:∀ j,K j=5):RowV w b (n+1) (fun j=>j<k+1) (fun _=>0) (fun _=>5):=
 h.congr (fun j hj p=>⟨by omega,by unfold updQ;split <;> simp [hx],by unfold updN;split <;> simp [hK]⟩)
set_option maxHeartbeats 16000000 in
set_option maxRecDepth 100000 in
theorem rsolve_any (vc vd vf vr:Value) (one:Int) (n:Nat) (cash:Nat->Int) (d:Nat->Nat->Int) (F fr:Nat->Bool) (w:World) (hc:Ints w vc n cash) (hm:Mat w vd n (fun _=>n) d) (hf:Bsl w vf n F) (hfr:Bsl w vr n fr) (hn0:0<n) (hn:n<=8)
  (hC:∀ i,i<n->0<=cash i/\cash i<=1000) (hd:∀ i j,0<=d i j) (hR:∀ i j,i<n->j<n->d i j<=1000) (hT:∀ i,i<n->sumF (d i) n<=100000) (ho : -1<=one/\one<=8) :
  Calls Tryz.prog 89 #[vc,vd,vf,vr,.int .i64 one] w fun e w'=>((∃ v x xs,e = .returned (.tuple #[v,.bool true])/\QRow w' w.heap.size v n (qN x) (qD x) (9 ^ n*22) xs/\(∀ y:Nat->Rat,(∀ i,i<n->sumQ (fun j=>sysQ n cash d F fr one i j*y j) n=sysQ n cash d F fr one i n)↔∀ i,i<n->y i=x i))\/
   (e = .returned (.tuple #[.slice none 0 0,.bool false])/\∃ y:Nat->Rat,(∀ i,i<n->sumQ (fun j=>sysQ n cash d F fr one i j*y j) n=0)/\∃ i,i<n/\y i≠0))/\Below w.heap.size w w':=by
 obtain⟨da,db,do_,dc,ra,rd,ro,rc,rfl,hdm⟩:=hm;obtain⟨ca,cb,co,cc,rfl,hcs⟩:=hc;obtain⟨fa,fb,fo,fc,rfl,hfs⟩:=hf;obtain⟨ga,gb,go_,gc,rfl,hgs⟩:=hfr;obtain⟨i0,hinf,hz0,hz1,hz2⟩:=info_parts infoZQs;have hzk:=noInt_zsl;have hnk:=noInt_one;have HM:=jj hdm;have HCS:=jj hcs;have HF:=jj hfs;have HG:=jj hgs;have HD0:=jj hd;have HR0:=jj hR;have HT0:=jj hT;have HC0:=jj hC;have KW0:=jj (boxes1 w (.cells #[] 32));have RQ0:=jj (RowsQ.start w (n+1) (sysQ n cash d F fr one) (fun _ _=>11))
 have hmk:∀ W,(Instr.makeSlice 32 (.int .i64 ((n:Int)+1)) (.int .i64 ((n:Int)+1))).run Tryz.prog W = .ok (.slice (some ⟨W.heap.size,0,none⟩) (n+1) (n+1)) (W.alloc (.cells (madeCells zR ((n+1)*4)) 40)):=fun W=>by
  have h:=mkVn (n+1) (by omega) W;rw [show ((n+1:Nat):Int)=(n:Int)+1 by omega] at h;exact h
 clear hdm hcs hfs hgs hd hR hT hC;go_enter Tryz.func89,Tryz.ntmps89;go_wp2;go_loopw [13,14,15,16,17,58,70] (fun v13 v14 v15 v16 v17 v58 v70 wq=>∃ i:Nat,i<=n/\v14 = .int .i64 (i:Nat)/\∃ va vk rb xs,v13 = .slice va i vk/\Hid (RowsQ w.heap.size wq i (.slice va i vk) (n+1) rb (sysQ n cash d F fr one) (fun _ _=>11) xs)/\Hid (Below w.heap.size w wq)) (fun _ v14 _ _ _ _ _ _=>n - (intOf v14).toNat)
 case atStart=>exact⟨0,by omega,rfl,_,0,_,[],rfl,RQ0,KW0⟩
 case round=>
  clear RQ0 KW0;obtain⟨i,hi,rfl,va,vk,rb,xs,rfl,RQ,KW⟩:=hrel;obtain⟨wq,rfl⟩:∃ wq:World,wq=wr:=⟨_,rfl⟩;by_cases h:i<n
  ·have e1:decide ((i:Int)<(n:Int))=true:=by simpa using h
   have e1n:decide (i<n)=true:=by simpa using h
   have RW0:=jj (RowV.made wq (n+1) (fun _=>0) (fun _=>5));have VL0:=jj (boxes1 wq (.cells (madeCells zR ((n+1)*4)) 40));go_wp2;go_loopw [16] (fun v16 wj=>∃ k:Nat,k<=n+1/\v16 = .int .i64 (k:Nat)/\Hid (RowV wj wq.heap.size (n+1) (fun j=>j<k) (fun _=>0) (fun _=>5))/\Hid (Below wq.heap.size wq wj)) (fun v16 _=>n+1 - (intOf v16).toNat)
   case atStart=>exact⟨0,by omega,rfl,jj (RW0.out.congr (fun j hj p=>by omega)),VL0⟩
   case round=>
    clear RW0 VL0;obtain⟨k,hk,rfl,RW,VL⟩:=hrel;by_cases h2:k<n+1
    ·have e2:decide ((k:Int)<=(n:Int))=true:=by simp;omega
     have e2n:decide (k<=n)=true:=by simp;omega
     have ixr:=fun W=>ixV wq.heap.size (n+1) (n+1) k h2 W
     have HIT:=jj h2;go_wp2_with fail;refine (qv_whole 0 _ (by omega) (by omega)).mono ?_;rintro e w2 ⟨r2,rfl,hr2,hb2⟩;obtain⟨s2,a2,n2,c2,t2,b2,l2,k2,rfl,Q2⟩:=hr2.shape;have VL:=jj (jb VL.out hb2);have RW:=jj (RW.out.below hb2 jl);clear hr2 hb2;obtain⟨s3,a3,n3,c3,t3,b3,l3,k3,⟨p0,p1,p2,p3,pl⟩,-⟩:=RW.out.cell k h2;have pf:=RW.out.f;go_wp2;go_roundw
     case rel=>
      exact⟨k+1,by omega,by go_num,jj (row_zero n k (fun _=>5) (by simp) (RW.out.set h2 rfl Q2.out) (fun _=>rfl)),jj (below_st4 VL.out jl _ _ _ _)⟩
     case measure=>simp [intOf];omega
    ·obtain rfl:k=n+1:=by omega
     have e2:decide (((n+1:Nat):Int)<=(n:Int))=false:=by simp;omega
     have e2n:decide (n+1<=n)=false:=by simp
     go_upto_region 11 with fail
     go_cut [] (fun wx=>Hid (RowV wx wq.heap.size (n+1) (fun _=>True) (fun j=>if j=i then 1 else 0) (fun _=>5))/\Hid (Below wq.heap.size wq wx))
     case first=>
      have hi1:i<n+1:=by omega
      have ixr:=fun W=>ixV wq.heap.size (n+1) (n+1) i hi1 W
      go_wp2_with fail;refine (qv_whole 1 _ (by omega) (by omega)).mono ?_;rintro e w2 ⟨r2,rfl,hr2,hb2⟩;obtain⟨s2,a2,n2,c2,t2,b2,l2,k2,rfl,Q2⟩:=hr2.shape;have VL:=jj (jb VL.out hb2);have RW:=jj (RW.out.below hb2 jl);clear hr2 hb2;obtain⟨s3,a3,n3,c3,t3,b3,l3,k3,⟨p0,p1,p2,p3,pl⟩,-⟩:=RW.out.cell i hi1;have pf:=RW.out.f;go_wp2_with fail;go_meet
      case rel=>
       exact⟨jj ((RW.out.set hi1 rfl Q2.out).congr (fun j hj _=>⟨by omega,by unfold updQ;by_cases e:j=i <;> simp [e],by unfold updN;by_cases e:j=i <;> simp [e]⟩)),jj (below_st4 VL.out jl _ _ _ _)⟩
     case rest=>
      clear RW VL;obtain⟨RW,VL⟩:=hcut
      go_upto_block 4 with fail
      go_cut [17,58,70] (fun v17 v58 v70 wx=>Hid (RowV wx wq.heap.size (n+1) (fun _=>True) (sysQ n cash d F fr one i) (fun _=>11))/\Hid (Below wq.heap.size wq wx))
      case first=>
       obtain⟨wm,rfl⟩:∃ wm:World,wm=wc:=⟨_,rfl⟩;have KWm:=jj (jb KW.out VL.out);have yg:=(HG.out.mono KWm.out jl).cell i h;have yf:=(HF.out.mono KWm.out jl).cell i h;simp only [bF] at yg yf;have ixg:=fun W=>ixF HG.out i gc h W
       have ixf:=fun W=>ixF HF.out i fc h W
       have hn1:n<n+1:=by omega
       have ixn:=fun W=>ixV wq.heap.size (n+1) (n+1) n hn1 W
       rcases hg:fr i with _ | _
       ·rw [hg] at yg;rcases hF:F i with _ | _
        ·rw [hF] at yf;have ixd:=fun W=>ixM HM.out.top i dc h W
         have y0:=(HM.out.mono KWm.out jl).top.cell i h;have HDT:Hid (∀ l,l<n->-(1099511627776:Int)<=d i l/\d i l<=1099511627776):=jj (fun l hl=>by have:=HR0.out i l h hl;have:=HD0.out i l;omega);have HT:Hid (-9223372036854775808<=sumF (d i) n/\sumF (d i) n<9223372036854775808):=jj (by have:=HT0.out i h;have:=sumF_nn (HD0.out i) n;omega)
         go_wp2_with (first
          | (go_at_call 17;(with_reducible refine (total_any _ n (d i) _ ((HM.out.row i h).ints.mono KWm.out jl) (by omega) HDT.out).mono ?_);rintro e w3 ⟨rfl,hd3⟩;have VL:=jj (VL.out.trans ((hd3.below wm.heap.size).mono VL.out.size));have RW:=jj (RW.out.below (hd3.below wm.heap.size) jl);clear hd3)
          | (go_at_call 16;(with_reducible refine (qv_whole (sumF (d i) n) _ HT.out.1 HT.out.2).mono ?_);rintro e w4 ⟨r4,rfl,hr4,hb4⟩;obtain⟨s2,a2,n2,c2,t2,b2,l2,k2,rfl,Q2⟩:=hr4.shape;have VL:=jj (jb VL.out hb4);have RW:=jj (RW.out.below hb4 jl);clear hr4 hb4;obtain⟨s3,a3,n3,c3,t3,b3,l3,k3,⟨p0,p1,p2,p3,pl⟩,-⟩:=RW.out.cell n hn1;have pf:=RW.out.f))
         go_meet
         case rel=>exact⟨jj ((RW.out.set hn1 rfl Q2.out).congr (fun j hj _=>⟨.inr trivial,sys_none hg hF j,by unfold updN;by_cases e:j=n <;> simp [e]⟩)),jj (below_st4 VL.out jl _ _ _ _)⟩
        ·rw [hF] at yf;have ixc:=fun W=>ixI HCS.out i cc h W
         have y1:=(HCS.out.mono KWm.out jl).cell i h;simp only [ic] at y1;have HW:Hid (-9223372036854775808<=cash i/\cash i<9223372036854775808):=jj (by have:=HC0.out i h;omega)
         go_wp2_with (first
          | (go_at_call 16;(with_reducible refine (qv_whole (cash i) _ HW.out.1 HW.out.2).mono ?_);rintro e w4 ⟨r4,rfl,hr4,hb4⟩;obtain⟨s2,a2,n2,c2,t2,b2,l2,k2,rfl,Q2⟩:=hr4.shape;have VL:=jj (jb VL.out hb4);have RW:=jj (RW.out.below hb4 jl);clear hr4 hb4;obtain⟨s3,a3,n3,c3,t3,b3,l3,k3,⟨p0,p1,p2,p3,pl⟩,-⟩:=RW.out.cell n hn1;have pf:=RW.out.f))
         have RW2:=jj ((RW.out.set hn1 rfl Q2.out).congr (P':=fun _=>True) (K':=fun j=>if j<0 then 11 else 5) (fun j hj _=>⟨.inr trivial,mid_start (cash:=cash) (d:=d) j,by unfold updN;by_cases e:j=n <;> simp [e]⟩));have VL2:=jj (below_st4 VL.out jl (.bool s2) (.slice a2 n2 c2) (.bool t2) (.slice b2 l2 k2) (o:=n*4));go_loopw [17] (fun v17 wj=>∃ k:Nat,k<=n/\v17 = .int .i64 (k:Nat)/\Hid (RowV wj wq.heap.size (n+1) (fun _=>True) (midS n cash d i k) (fun j=>if j<k then 11 else 5))/\Hid (Below wq.heap.size wq wj)) (fun v17 _=>n - (intOf v17).toNat)
         case atStart=>exact⟨0,by omega,rfl,RW2,VL2⟩
         case round=>
          clear RW2 VL2;obtain⟨k,hk,rfl,RW,VL⟩:=hrel;by_cases h3:k<n
          ·have e3:decide ((k:Int)<(n:Int))=true:=by simpa using h3
           have e3n:decide (k<n)=true:=by simpa using h3
           have KWj:=jj (jb KW.out VL.out);have ixm:=fun W=>ixM HM.out.top k dc h3 W
           have ixq:=fun W=>ixI (HM.out.row k h3) i (rc k) h W
           have hM1:=HM.out.mono KWj.out jl;have y0:=hM1.top.cell k h3;have y1:=(hM1.row k h3).cell i h;simp only [ic] at y1;clear hM1;have hk1:k<n+1:=by omega
           by_cases hz:0<d k i
           ·have d1:decide (0<d k i)=true:=by simpa using hz
            obtain⟨s5,a5,n5,c5,t5,a6,n6,c6,hr5,hq5⟩:=RW.out.cell k hk1;have HR5:=jj hr5;have HQ5:=jj ((hq5 trivial).le (show (if k<k then 11 else 5)<=5 by simp));have HMT:=sumF_mem (HD0.out k) n i h;have HNZ:Hid (sumF (d k) n≠0):=jj (by omega);have HR1:Hid (-9223372036854775808<=d k i/\d k i<9223372036854775808):=jj (by have:=HR0.out k i h3 h;omega);have HR2:Hid (-9223372036854775808<=sumF (d k) n/\sumF (d k) n<9223372036854775808):=jj (by have:=HT0.out k h3;omega);have HDT:Hid (∀ l,l<n->-(1099511627776:Int)<=d k l/\d k l<=1099511627776):=jj (fun l hl=>by have:=HR0.out k l h3 hl;have:=HD0.out k l;omega);have HX:Hid ((d k i:Rat) / (sumF (d k) n:Rat)=shQ n d k i):=jj (shQ_div HNZ.out).symm;have ixr:=fun W=>ixV wq.heap.size (n+1) (n+1) k hk1 W
            have VQ:=VL;have VL0:=jj (jr wr);have VL:=jj VL0.out.drew
            have keepR:Hid (∀ w',Below wr.heap.size wr w'->w'.cell? ⟨wq.heap.size,k*4,none⟩=some (.bool s5)/\w'.cell? ⟨wq.heap.size,k*4+1,none⟩=some (.slice a5 n5 c5)/\w'.cell? ⟨wq.heap.size,k*4+2,none⟩=some (.bool t5)/\w'.cell? ⟨wq.heap.size,k*4+3,none⟩=some (.slice a6 n6 c6)/\w'.cell? ⟨db,do_+k,none⟩=some (.slice (ra k) n (rc k))/\w'.cell? ⟨rd k,ro k+i,none⟩=some (.int .i64 (d k i))):=
             jj (fun w' hb=>⟨bel1 hb HR5.out.c0 HR5.out.lt,bel1 hb HR5.out.c1 HR5.out.lt,bel1 hb HR5.out.c2 HR5.out.lt,bel1 hb HR5.out.c3 HR5.out.lt,
              bel1 hb y0 (jm (HM.out.top.lt (by omega)) KWj.out.size),bel1 hb y1 (jm ((HM.out.row k h3).lt (by omega)) KWj.out.size)⟩)
            clear hr5 hq5 HMT;go_wp2;clear y0 y1;refine wp_region_last (S:=fun w'=>w'.cell? ⟨wq.heap.size,k*4,none⟩=some (.bool s5)/\w'.cell? ⟨wq.heap.size,k*4+1,none⟩=some (.slice a5 n5 c5)/\w'.cell? ⟨wq.heap.size,k*4+2,none⟩=some (.bool t5)/\w'.cell? ⟨wq.heap.size,k*4+3,none⟩=some (.slice a6 n6 c6)/\w'.cell? ⟨db,do_+k,none⟩=some (.slice (ra k) n (rc k))/\w'.cell? ⟨rd k,ro k+i,none⟩=some (.int .i64 (d k i))) (by as_aux_lemma=>kernel_rfl) (by as_aux_lemma=>kernel_rfl) (keepR.out _ VL.out) (fun hHeld=>?_);simp only [List.pop_toArray,List.dropLast_cons_cons,List.dropLast_singleton];refine wtk_begin [0,1,2,3,4,5,6,7,8,9,10,11,12,13,14,15,16] ?_
            iterate 17 (refine wtk (v:=?_) rfl (by as_aux_lemma=>kernel_rfl) (fun _ _ _ h=>h) (by kernel_rfl) ?_ (by assumption) ?_;rotate_left;(focus intro w0 hSw;(try dsimp only at hSw);go_simp;all_goals (with_reducible rfl));simp only [Act.put,js,jz,jc])
            refine wtk_end ?_;refine wpAnyH_ready (rs:=[17]) (by as_aux_lemma=>kernel_rfl) (by simp) ?_;refine AllReadyH.cons rfl (fun Kn hKn=>?_) AllReadyH.nil;go_simp
            (go_at_call 17;(with_reducible refine (total_any _ n (d k) _ ((HM.out.row k h3).ints.mono (jb KWj.out VL.out) jl) (by omega) HDT.out).mono ?_);rintro e w3 ⟨rfl,hd3⟩;have VL:=jj (VL.out.trans ((hd3.below _).mono VL.out.size)))
            go_wp2_with fail;refine hKn.out _ _ (keepR.out _ VL.out) (fun hHeld=>?_);clear hKn Kn
            (try simp only [Act.put,js,jz,jc])
            refine wpAnyH_ready (rs:=[18]) (by as_aux_lemma=>kernel_rfl) (by simp) ?_;refine AllReadyH.cons rfl (fun Kn hKn=>?_) AllReadyH.nil;go_simp
            (go_at_call 49;(with_reducible refine (make_any (d k i) (sumF (d k) n) _ HR1.out.1 HR1.out.2 HR2.out.1 HR2.out.2 HNZ.out).mono ?_);rintro e w4 ⟨r4,rfl,hr4,hb4⟩;obtain⟨s4,a4,n4,c4,t4,a7,n7,c7,rfl,QM⟩:=(QV.of hr4).shape;clear hr4;have VL:=jj (jb VL.out hb4))
            go_wp2_with fail;refine hKn.out _ _ (keepR.out _ VL.out) (fun hHeld=>?_);clear hKn Kn
            (try simp only [Act.put,js,jz,jc])
            refine wpAnyH_ready (rs:=[19]) (by as_aux_lemma=>kernel_rfl) (by simp) ?_;refine AllReadyH.cons rfl (fun Kn hKn=>?_) AllReadyH.nil;go_simp
            (go_at_call 28;(with_reducible refine (qv_sub _ _ (midS n cash d i k k) ((d k i:Rat) / (sumF (d k) n:Rat)) 5 _ (HQ5.out.mono VL.out jl) QM.out (by omega)).mono ?_);rintro e w5 ⟨r5,rfl,hr5,hb5⟩;obtain⟨x1,y1,z1,u1,x2,y2,z2,u2,rfl,QA⟩:=hr5.shape;clear hr5;have VL:=jj (jb VL.out hb5);have RW6:=jj (RW.out.below VL.out jl);obtain⟨p0,p1,p2,p3,pl⟩:=(bel4 VL.out HR5.out HR5.out.lt);have pf:=RW6.out.f)
            go_wp2_with fail;refine hKn.out _ _ (keepR.out _ VL.out) (fun hHeld=>?_);clear hKn Kn
            (try simp only [Act.put,js,jz,jc])
            refine wtk_begin [20] ?_
            (refine wtk (v:=?_) rfl (by as_aux_lemma=>kernel_rfl) (fun _ _ _ h=>h) (by kernel_rfl) ?_ (by assumption) ?_;rotate_left;(focus intro w0 hSw;(try dsimp only at hSw);go_simp;all_goals (with_reducible rfl));simp only [Act.put,js,jz,jc])
            refine wtk_end ?_;refine wpAnyH_done (by as_aux_lemma=>kernel_rfl) ?_ _;refine lastQ_step rfl (fun Kn hKn=>?_);go_simp;refine hKn.out _ _ ?_;clear hKn Kn
            (try simp only [Act.put,js,jz,jc])
            have R6:=jj ((RW6.out.set hk1 rfl QA.out).congr (P':=fun _=>True) (fun j hj _=>⟨.inr trivial,mid_step h3 HX.out j,mid_bound k j⟩));have V6:=jj (below_st4 (jb VQ.out VL.out) jl (.bool x1) (.slice y1 z1 u1) (.bool x2) (.slice y2 z2 u2) (o:=k*4));clear p0 p1 p2 p3 pf pl;go_wp2;go_roundw
            case rel=>exact⟨k+1,by omega,by go_num,R6,V6⟩
            case measure=>simp [intOf];omega
           ·have d1:decide (0<d k i)=false:=by simpa using hz
            have HZ:Hid (shQ n d k i=0):=jj (shQ_none (by have:=HD0.out k i;omega));clear hz;go_wp2;go_roundw
            case rel=>exact⟨k+1,by omega,by go_num,jj (RW.out.congr (fun j hj _=>⟨trivial,mid_skip HZ.out j,by split <;> split <;> omega⟩)),VL⟩
            case measure=>simp [intOf];omega
          ·obtain rfl:n=k:=by omega
           have e3:decide ((n:Int)<(n:Int))=false:=by simp
           go_wp2_with fail;go_meet
           case rel=>exact⟨jj (RW.out.congr (fun j hj _=>⟨trivial,sys_fail hg hF j hj,by split <;> omega⟩)),VL⟩
       ·rw [hg] at yg;by_cases ho1:(i:Int)=one
        ·have d1:((i:Int) == one)=true:=by simpa using ho1
         have HO:=jj ho1;clear ho1
         go_wp2_with (first
          | (go_at_call 16;(with_reducible refine (qv_whole 1 _ (by omega) (by omega)).mono ?_);rintro e w4 ⟨r4,rfl,hr4,hb4⟩;obtain⟨s2,a2,n2,c2,t2,b2,l2,k2,rfl,Q2⟩:=hr4.shape;have VL:=jj (jb VL.out hb4);have RW:=jj (RW.out.below hb4 jl);clear hr4 hb4;obtain⟨s3,a3,n3,c3,t3,b3,l3,k3,⟨p0,p1,p2,p3,pl⟩,-⟩:=RW.out.cell n hn1;have pf:=RW.out.f))
         go_meet
         case rel=>exact⟨jj ((RW.out.set hn1 rfl Q2.out).congr (fun j hj _=>⟨.inr trivial,sys_one hg HO.out j,by unfold updN;by_cases e:j=n <;> simp [e]⟩)),jj (below_st4 VL.out jl _ _ _ _)⟩
        ·have d1:((i:Int) == one)=false:=by simpa using ho1
         have HO:=jj ho1;clear ho1;go_wp2_with fail;go_meet
         case rel=>exact⟨jj (RW.out.congr (fun j hj _=>⟨trivial,sys_free hg HO.out h j,by omega⟩)),VL⟩
      case rest=>
       clear RW VL;obtain⟨RW,VL⟩:=hcut;have HVL:=jj (VL.out.size);have KWB:=jj (jb KW.out VL.out);have R2:=jj (RQ.out.below VL.out);have HKS:=jj KWB.out.size
       go_wp2_with (first
        | (at_builtin;refine wpList_append_kindz rfl (.tmp 117) (.tmp 119) 166 rfl w.heap.size 32 i0 (.slice none 0 0) 1 24 Tryz.underlying166 hinf hz0 hz1 hz2 rfl (by decide) (.slice va i vk) i xs rfl ((own_kept RQ.out.own VL.out).alloc _) (R2.out.kind.below (boxes1 _ _) (fun g hg=>(R2.out.own.lt g hg).2)) hzk ⟨wc.heap.size,0,none⟩ 1 1 [.slice (some ⟨wq.heap.size,0,none⟩) (n+1) (n+1)] rfl rfl (new1 wc (.slice (some ⟨wq.heap.size,0,none⟩) (n+1) (n+1)) 32) (one1 _ rfl) (hnk _ _ _) (by unfold maxLen;omega) (by omega) (by have:=HKS.out;simp;omega) (by omega) ?_;intro v' w5 hown hgrow hblk hkind;obtain⟨va2,vk2,rfl⟩:=own_shape hown;have R5:=jj (RQ.out.push KW.out.size VL.out RW.out jl RW.out.lt hown hgrow hblk hkind);have K5:=jj ((KWB.out.alloc KWB.out.size _).grown hgrow (by have:=HKS.out;simp;omega) (fun kk e=>(RQ.out.own.lt kk e).1));clear hown hgrow hblk hkind))
       go_roundw
       case rel=>exact⟨i+1,by omega,by go_num,va2,vk2,_,_,rfl,R5,K5⟩
       case measure=>simp [intOf];omega
  ·obtain rfl:n=i:=by omega
   have e1:decide ((n:Int)<(n:Int))=false:=by simp
   obtain⟨t,tk,hv,hQ⟩:=RQ.out.qmat hn0;injection hv with hv1 hv2 hv3;subst hv1;subst hv3;have QM0:=jj hQ;have GJ0:=jj (GJ.start n (sysQ n cash d F fr one));clear hQ RQ;go_wp2;go_loopw [18,19,20,21,22] (fun v18 v19 v20 v21 v22 wr=>∃ c:Nat,c<=n/\v18 = .int .i64 (c:Nat)/\∃ rb rc M,Hid (QMat wr w.heap.size t n (n+1) rb rc M (fun _ _=>9 ^ c*11))/\Hid (GJ n c (sysQ n cash d F fr one) M)/\Hid (Below w.heap.size w wr)) (fun v18 _ _ _ _ _=>n - (intOf v18).toNat)
   case atStart=>exact⟨0,by omega,rfl,_,_,_,jj (QM0.out.congr (fun i j _ _=>⟨rfl,by omega⟩)),GJ0,KW⟩
   case round=>
    clear QM0 GJ0 KW;obtain⟨c,hcn,rfl,rb,rc,M,QM,GJc,KW⟩:=hrel;obtain⟨wq,rfl⟩:∃ wq:World,wq=wr:=⟨_,rfl⟩;obtain⟨K,hKe⟩:∃ K,K=9 ^ c*11:=⟨_,rfl⟩;have HKE:=jj hKe;rw [<-hKe] at QM;have hKb:=pow_bound (show c<=8 by omega);have hK1:11<=K:=by omega
    have hK2:K<=473513931:=by omega
    clear hKe hKb;by_cases h:c<n
    ·have e1:decide ((c:Int)<(n:Int))=true:=by simpa using h
     have e1n:decide (c<n)=true:=by simpa using h
     go_upto_block 9 with fail
     go_cut [19] (fun v19 wx=>∃ a:Nat,c<=a/\a<=n/\v19 = .int .i64 (a:Nat)/\Hid (∀ i,c<=i->i<a->M i c=0)/\Hid (a<n->M a c≠0)/\Hid (Below wq.heap.size wq wx))
     case first=>
      have VL0:=jj (jr wq);go_wp2_with fail;go_loopw [19] (fun v19 wr=>∃ a:Nat,c<=a/\a<=n/\v19 = .int .i64 (a:Nat)/\Hid (∀ i,c<=i->i<a->M i c=0)/\Hid (Below wq.heap.size wq wr)) (fun v19 _=>n - (intOf v19).toNat)
      case atStart=>exact⟨c,by omega,by omega,rfl,jj (fun i h1 h2=>by omega),VL0⟩
      case round=>
       clear VL0;obtain⟨a,hca,han,rfl,HZ,VL⟩:=hrel;by_cases h2:a<n
       ·have e2:decide ((a:Int)<(n:Int))=true:=by simpa using h2
        have e2n:decide (a<n)=true:=by simpa using h2
        have ixw:=fun W=>ixW t n vk a h2 W
        have hc1:c<n+1:=by omega
        have ixr:=fun W=>ixV (rb a) (n+1) (rc a) c hc1 W
        have QR:=jj (QM.out.below VL.out jl);have y0:=QR.out.hdr a h2;obtain⟨s5,a5,n5,c5,t5,a6,n6,c6,⟨z0,z1,z2,z3,zl⟩,zq⟩:=QR.out.at_ h2 hc1;have HQ5:=jj zq;clear zq;by_cases hz:M a c=0
        ·have sg:=sg_nil hz;have HN:=jj hz;clear hz;go_wp2_with (first | (go_at_call 29;(with_reducible refine (qv_sign (M a c) K _ HQ5.out).mono ?_);rintro e w3 ⟨rfl,hb3⟩;have VL:=jj (jb VL.out hb3);clear hb3));go_roundw
         case rel=>exact⟨a+1,by omega,by omega,by go_num,jj (fun i h1 h2=>by
          by_cases e:i=a
          ·subst e;exact HN.out
          ·exact HZ.out i h1 (by omega)),VL⟩
         case measure=>simp [intOf];omega
        ·have sg:=sg_not hz;have HN:=jj hz;clear hz;go_wp2_with (first | (go_at_call 29;(with_reducible refine (qv_sign (M a c) K _ HQ5.out).mono ?_);rintro e w3 ⟨rfl,hb3⟩;have VL:=jj (jb VL.out hb3);clear hb3));go_meet
         case rel=>exact⟨a,by omega,by omega,rfl,HZ,jj (fun _=>HN.out),VL⟩
       ·obtain rfl:n=a:=by omega
        have e2:decide ((n:Int)<(n:Int))=false:=by simp
        go_wp2_with fail;go_meet
        case rel=>exact⟨n,by omega,by omega,rfl,HZ,jj (fun hh=>by omega),VL⟩
     case rest=>
      obtain⟨a,hca,han,rfl,HZ,HNZ,VL⟩:=hcut;have KWc:=jj (jb KW.out VL.out);have QM:=jj (QM.out.below VL.out jl);by_cases h2:a<n
      ·have e2:((a:Int) == (n:Int))=false:=by simp;omega
       have hMa:=jj (HNZ.out h2);have ixa:=fun W=>ixW t n vk a h2 W
       have ixc:=fun W=>ixW t n vk c h W
       have y0:=QM.out.hdr a h2;have y1:=QM.out.hdr c h;have yf:=QM.out.hf;obtain⟨wm,rfl⟩:∃ wm:World,wm=wc:=⟨_,rfl⟩
       obtain⟨us,ys⟩:∃ u,(wm.setCell ⟨t,c,none⟩ (.slice (some ⟨rb a,0,none⟩) (n+1) (rc a))).cell? ⟨t,a,none⟩=some u:=by
        by_cases e:a=c
        ·subst e;exact⟨_,self_set y0⟩
        ·exact⟨_,off_set (by omega) y0⟩
       go_upto_region 32 with fail
       go_cut [] (fun wx=>Hid (QMat wx w.heap.size t n (n+1) (fun i=>rb (swI c a i)) (fun i=>rc (swI c a i)) (fun i=>M (swI c a i)) (fun _ _=>K))/\Hid (Below w.heap.size w wx))
       case first=>
        go_region
        all_goals
         go_wp2_with fail;go_meet
         case rel=>exact⟨jj (QM.out.swap h h2).drew,jj ((KWc.out.setCell (p:=⟨t,c,none⟩) QM.out.gB _).setCell (p:=⟨t,a,none⟩) QM.out.gB _).drew⟩
       case rest=>
        clear y0 y1 ys yf;have QS:=QM;clear QM KWc;obtain⟨QM,KW2⟩:=hcut;obtain⟨rb2,hrb2⟩:∃ f,f=(fun i=>rb (swI c a i)):=⟨_,rfl⟩;obtain⟨rc2,hrc2⟩:∃ f,f=(fun i=>rc (swI c a i)):=⟨_,rfl⟩;obtain⟨N,hN⟩:∃ f,f=(fun i=>M (swI c a i)):=⟨_,rfl⟩;rw [<-hrb2,<-hrc2,<-hN] at QM
        have hNs:N=swapQ M c a:=by
         rw [hN];funext i l;unfold swI swapQ;split
         ·rfl
         ·split <;> rfl
        have GJs:=jj (GJc.out.swap hca h2);rw [<-hNs] at GJs;have hNp:N c c≠0:=by rw [hNs];unfold swapQ;rw [if_pos rfl];exact hMa.out
        have HNP:=jj hNp;have HCZ:Hid (∀ l,l<c->N c l=0):=jj (fun l hl=>GJs.out.zero c l h hl (by omega));clear hrb2 hrc2 hN hNs hNp hMa GJc QS HZ HNZ VL;go_wp2_with fail;go_loopw [20,21,22] (fun v20 v21 v22 wr=>∃ i:Nat,i<=n/\v20 = .int .i64 (i:Nat)/\Hid (QMat wr w.heap.size t n (n+1) rb2 rc2 (clrM c i 0 N) (clrK c i 0 K))/\Hid (Below w.heap.size w wr)) (fun v20 _ _ _=>n - (intOf v20).toNat)
        case atStart=>exact⟨0,by omega,rfl,jj (QM.out.congr (fun r l _ _=>clr_zero r l)),KW2⟩
        case round=>
         clear QM KW2;obtain⟨i,hi,rfl,QM,KW2⟩:=hrel;obtain⟨wi,rfl⟩:∃ wi:World,wi=wr:=⟨_,rfl⟩;by_cases h4:i<n
         ·have e4:decide ((i:Int)<(n:Int))=true:=by simpa using h4
          have e4n:decide (i<n)=true:=by simpa using h4
          by_cases hic:i=c
          ·subst hic;have e5:((i:Int) == (i:Int))=true:=by simp
           go_wp2_with fail;go_roundw
           case rel=>exact⟨i+1,by omega,by go_num,jj (QM.out.congr (fun r l _ _=>clr_same r l)),KW2⟩
           case measure=>simp [intOf];omega
          ·have e5:((i:Int) == (c:Int))=false:=by simp;omega
           have ixi:=fun W=>ixW t n vk i h4 W
           have hc1:c<n+1:=by omega
           have ixic:=fun W=>ixV (rb2 i) (n+1) (rc2 i) c hc1 W
           have y0:=QM.out.hdr i h4;obtain⟨s5,a5,n5,c5,t5,a6,n6,c6,hr5,zq⟩:=QM.out.at_ h4 hc1;have HR5:=jj hr5;obtain⟨z0,z1,z2,z3,zl⟩:=hr5;rw [(clr_at (M:=N) (K:=K) (j:=0) (c:=c) (i:=i) c (Nat.zero_le _)).1,(clr_at (M:=N) (K:=K) (j:=0) (c:=c) (i:=i) c (Nat.zero_le _)).2] at zq;have HQ5:=jj zq;clear zq;by_cases hz:N i c=0
           ·have sg:=sg_nil hz;have HN:=jj hz;clear hz;go_wp2_with (first | (go_at_call 29;(with_reducible refine (qv_sign (N i c) K _ HQ5.out).mono ?_);rintro e w3 ⟨rfl,hb3⟩;have HB3:=jj hb3;clear hb3));go_roundw
            case rel=>exact⟨i+1,by omega,by go_num,jj ((QM.out.below HB3.out jl).congr (fun r l _ _=>clr_skip HN.out r l)),jj (jb KW2.out HB3.out)⟩
            case measure=>simp [intOf];omega
           ·have sg:=sg_not hz;clear hz
            go_upto_region 37 with (first | (go_at_call 29;(with_reducible refine (qv_sign (N i c) K _ HQ5.out).mono ?_);rintro e w3 ⟨rfl,hb3⟩;have QM:=jj (QM.out.below hb3 jl);have KW2:=jj (jb KW2.out hb3)))
            go_cut [21] (fun v21 wx=>∃ Qb sq aq nq cq tq aq2 nq2 cq2,v21 = .pointer (some ⟨Qb,0,none⟩)/\Hid ((∀ r,r<n->rb2 r<Qb)/\t<Qb)/\Hid (QMat wx w.heap.size t n (n+1) rb2 rc2 (clrM c i 0 N) (clrK c i 0 K))/\Hid (Below w.heap.size w wx)/\
             Hid (Own4 wx Qb (.bool sq) (.slice aq nq cq) (.bool tq) (.slice aq2 nq2 cq2))/\Hid (QV wx (.agg #[.bool sq,.slice aq nq cq,.bool tq,.slice aq2 nq2 cq2]) (N i c / N c c) (2*K)))
            case first=>
             clear y0 z0 z1 z2 z3 zl;have HQI:=jj (HQ5.out.mono hb3 jl);have HRI:Hid (Rd4 w3 (rb2 i) (c*4) (.bool s5) (.slice a5 n5 c5) (.bool t5) (.slice a6 n6 c6)):=jj (HR5.out.below hb3 HR5.out.lt);obtain⟨sp,ap,np,cp,tp,ap2,np2,cp2,hrp,zq⟩:=QM.out.at_ h hc1;rw [(clr_piv (M:=N) (K:=K) (j:=0) hic c).1,(clr_piv (M:=N) (K:=K) (j:=0) hic c).2] at zq;have HQP:=jj zq;have HRP:=jj hrp;have ixc2:=fun W=>ixW t n vk c h W
             have ixcc:=fun W=>ixV (rb2 c) (n+1) (rc2 c) c hc1 W
             clear zq hrp
             have keepR:Hid (∀ w',Below w3.heap.size w3 w'->w'.cell? ⟨t,i,none⟩=some (.slice (some ⟨rb2 i,0,none⟩) (n+1) (rc2 i))/\w'.cell? ⟨rb2 i,c*4,none⟩=some (.bool s5)/\w'.cell? ⟨rb2 i,c*4+1,none⟩=some (.slice a5 n5 c5)/\w'.cell? ⟨rb2 i,c*4+2,none⟩=some (.bool t5)/\w'.cell? ⟨rb2 i,c*4+3,none⟩=some (.slice a6 n6 c6)/\w'.cell? ⟨t,c,none⟩=some (.slice (some ⟨rb2 c,0,none⟩) (n+1) (rc2 c))/\w'.cell? ⟨rb2 c,c*4,none⟩=some (.bool sp)/\w'.cell? ⟨rb2 c,c*4+1,none⟩=some (.slice ap np cp)/\w'.cell? ⟨rb2 c,c*4+2,none⟩=some (.bool tp)/\w'.cell? ⟨rb2 c,c*4+3,none⟩=some (.slice ap2 np2 cp2)):=
              jj (fun w' hb=>⟨bel1 hb (QM.out.hdr i h4) QM.out.gl,bel1 hb HRI.out.c0 HRI.out.lt,bel1 hb HRI.out.c1 HRI.out.lt,bel1 hb HRI.out.c2 HRI.out.lt,bel1 hb HRI.out.c3 HRI.out.lt,
               bel1 hb (QM.out.hdr c h) QM.out.gl,bel1 hb HRP.out.c0 HRP.out.lt,bel1 hb HRP.out.c1 HRP.out.lt,bel1 hb HRP.out.c2 HRP.out.lt,bel1 hb HRP.out.c3 HRP.out.lt⟩)
             have VL:=jj (jr w3).drew;have HST:StaysB (fun w'=>w'.cell? ⟨t,i,none⟩=some (.slice (some ⟨rb2 i,0,none⟩) (n+1) (rc2 i))/\w'.cell? ⟨rb2 i,c*4,none⟩=some (.bool s5)/\w'.cell? ⟨rb2 i,c*4+1,none⟩=some (.slice a5 n5 c5)/\w'.cell? ⟨rb2 i,c*4+2,none⟩=some (.bool t5)/\w'.cell? ⟨rb2 i,c*4+3,none⟩=some (.slice a6 n6 c6)/\w'.cell? ⟨t,c,none⟩=some (.slice (some ⟨rb2 c,0,none⟩) (n+1) (rc2 c))/\w'.cell? ⟨rb2 c,c*4,none⟩=some (.bool sp)/\w'.cell? ⟨rb2 c,c*4+1,none⟩=some (.slice ap np cp)/\w'.cell? ⟨rb2 c,c*4+2,none⟩=some (.bool tp)/\w'.cell? ⟨rb2 c,c*4+3,none⟩=some (.slice ap2 np2 cp2)):=fun w1 w2 h hb=>⟨cell_stays h.1 hb,cell_stays h.2.1 hb,cell_stays h.2.2.1 hb,cell_stays h.2.2.2.1 hb,cell_stays h.2.2.2.2.1 hb,cell_stays h.2.2.2.2.2.1 hb,cell_stays h.2.2.2.2.2.2.1 hb,cell_stays h.2.2.2.2.2.2.2.1 hb,cell_stays h.2.2.2.2.2.2.2.2.1 hb,cell_stays h.2.2.2.2.2.2.2.2.2 hb⟩
             refine wp_region_box HST (d:=21) (zs:=#[.bool false,.slice none 0 0,.bool false,.slice none 0 0]) (t:=40) (by as_aux_lemma=>kernel_rfl) (by as_aux_lemma=>kernel_rfl) rfl (fun a w=>by kernel_rfl) (fun _ _ _ _ h=>h) (keepR.out _ VL.out) (fun hHeld=>?_);simp only [List.pop_toArray,List.dropLast_cons_cons,List.dropLast_singleton];refine wte_begin [0,1,2,3,4,5,6,7,8,9,10,11,12,13] ?_
             iterate 14 (refine wte (v:=?_) HST rfl (by as_aux_lemma=>kernel_rfl) (fun _ _ _ h=>h) (by kernel_rfl) ?_ hHeld ?_;rotate_left;(focus intro w0 hSw;(try dsimp only at hSw);go_simp;all_goals (with_reducible rfl));simp only [Act.put,js,jz,jc])
             refine wte_end ?_;refine wpAnyE_ready (rs:=[14]) (by as_aux_lemma=>kernel_rfl) (by simp) (fun we hext=>?_);have VL:=jj (bl_trans VL.out hext);have hHeld:=HST _ _ hHeld hext;refine AllReadyE.cons rfl (fun Kn hKn=>?_) AllReadyE.nil;go_simp
             (go_at_call 90;(with_reducible refine (qv_div _ _ (N i c) (N c c) K _ (HQI.out.mono VL.out jl) (HQP.out.mono VL.out jl) HNP.out (by omega)).mono ?_);rintro e w7 ⟨r7,rfl,hr7,hbc⟩;obtain⟨s7,a7,n7,c7,t7,b7,l7,k7,rfl,QK7⟩:=hr7.shape;clear hr7)
             have VL:=jj (bl_trans VL.out hbc);go_wp2_with fail;refine hKn.out _ _ ?_ ?_ (fun hHeld=>?_)
             ·(try dsimp only);exact keepR.out _ VL.out
             ·exact hbc
             clear hKn Kn hext hbc
             (try simp only [Act.put,js,jz,jc])
             refine wpAnyE_ready (rs:=[15]) (by as_aux_lemma=>kernel_rfl) (by simp) (fun we hext=>?_);have VL:=jj (bl_trans VL.out hext);have hHeld:=HST _ _ hHeld hext;have QK7:=jj (QK7.out.mono hext jl);refine AllReadyE.cons rfl (fun Kn hKn=>?_) AllReadyE.nil;go_simp
             (go_at_call 50;(with_reducible refine (qv_low _ (N i c / N c c) (2*K) _ QK7.out (by omega)).mono ?_);rintro e w8 ⟨r8,rfl,hr8,hbc⟩;have hr8:=QV.of hr8;obtain⟨s8,a8,n8,c8,t8,b8,l8,k8,rfl,QK8⟩:=hr8.shape;clear hr8)
             have QK7:=jj (QK7.out.mono hbc jl);have VL:=jj (bl_trans VL.out hbc);go_wp2_with fail;refine hKn.out _ _ ?_ ?_ (fun hHeld=>?_)
             ·(try dsimp only);exact keepR.out _ VL.out
             ·exact hbc
             clear hKn Kn hext hbc
             (try simp only [Act.put,js,jz,jc])
             refine wpAnyE_done (by as_aux_lemma=>kernel_rfl) (fun we hext=>?_) _;intro x wx hbx hx0 hxz;have VL:=jj (bl_trans (bl_trans VL.out hext) hbx);have QK8:=jj ((QK8.out.mono hext jl).mono hbx jl);have OX:=jj (own4_block hxz);obtain⟨x0,x1,x2,x3,xf,xl⟩:=OX.out;clear hext hbx hxz ixc2 ixcc ixi ixic;simp only [Act.put,js,jz,jc];refine lastQ_step rfl (fun Kn hKn=>?_);go_simp;refine hKn.out _ _ ?_;clear hKn Kn
             (try simp only [Act.put,js,jz,jc])
             have V8:=jj (below_set4q VL.out (b:=x) hx0 (.bool s8) (.slice a8 n8 c8) (.bool t8) (.slice b8 l8 k8));clear x0 x1 x2 x3 xf xl hHeld HST;go_wp2_with fail;go_meet
             case rel=>exact⟨x,s8,a8,n8,c8,t8,b8,l8,k8,rfl,jj ⟨fun r hr=>jm (QM.out.row r hr).lt hx0,jm QM.out.gl hx0⟩,jj (QM.out.below V8.out jl),jj (jb KW2.out V8.out),jj (OX.out.anew _ _ _ _),jj (QK8.out.at4 OX.out _ _ _ _)⟩
            case rest=>
             clear y0 z0 z1 z2 z3 zl QM KW2 HQ5;obtain⟨Qb,sq,aq,nq,cq,tq,aq2,nq2,cq2,rfl,HQB,QM,KW2,OQ,HQT⟩:=hcut;have QM:=jj (QM.out.congr (fun r l _ _=>clr_start HCZ.out r l));go_wp2_with fail
             go_loopw [22] (fun v22 wr=>∃ j:Nat,c<=j/\j<=n+1/\v22 = .int .i64 (j:Nat)/\Hid (QMat wr w.heap.size t n (n+1) rb2 rc2 (clrM c i j N) (clrK c i j K))/\Hid (Below w.heap.size w wr)/\
              Hid (Own4 wr Qb (.bool sq) (.slice aq nq cq) (.bool tq) (.slice aq2 nq2 cq2))/\Hid (QV wr (.agg #[.bool sq,.slice aq nq cq,.bool tq,.slice aq2 nq2 cq2]) (N i c / N c c) (2*K))) (fun v22 _=>n+1 - (intOf v22).toNat)
             case atStart=>exact⟨c,by omega,by omega,rfl,QM,KW2,OQ,HQT⟩
             case round=>
              clear QM KW2 OQ HQT;obtain⟨j,hcj,hj,rfl,QM,KW2,OQ,HQT⟩:=hrel;obtain⟨wj,rfl⟩:∃ wj:World,wj=wr:=⟨_,rfl⟩;by_cases h5:j<n+1
              ·have e5:decide ((j:Int)<=(n:Int))=true:=by simp;omega
               have e5n:decide (j<=n)=true:=by simp;omega
               obtain⟨s5,a5,n5,c5,t5,a6,n6,c6,hri,zi⟩:=QM.out.at_ h4 h5;obtain⟨sp,ap,np,cp,tp,ap2,np2,cp2,hrp,zp⟩:=QM.out.at_ h h5;rw [(clr_piv (M:=N) (K:=K) (j:=j) hic j).1,(clr_piv (M:=N) (K:=K) (j:=j) hic j).2] at zp;rw [(clr_at (M:=N) (K:=K) (c:=c) (i:=i) j (Nat.le_refl j)).1,(clr_at (M:=N) (K:=K) (c:=c) (i:=i) j (Nat.le_refl j)).2] at zi;have HQP:=jj zp;have HQI:=jj zi;have HRP:=jj hrp;have HRI:=jj hri;have ixc2:=fun W=>ixW t n vk c h W
               have ixcj:=fun W=>ixV (rb2 c) (n+1) (rc2 c) j h5 W
               have ixij:=fun W=>ixV (rb2 i) (n+1) (rc2 i) j h5 W
               clear zp zi hrp hri
               have keepR:Hid (∀ w',Below wj.heap.size wj w'->w'.cell? ⟨t,i,none⟩=some (.slice (some ⟨rb2 i,0,none⟩) (n+1) (rc2 i))/\w'.cell? ⟨rb2 i,j*4,none⟩=some (.bool s5)/\w'.cell? ⟨rb2 i,j*4+1,none⟩=some (.slice a5 n5 c5)/\w'.cell? ⟨rb2 i,j*4+2,none⟩=some (.bool t5)/\w'.cell? ⟨rb2 i,j*4+3,none⟩=some (.slice a6 n6 c6)/\w'.cell? ⟨Qb,0,none⟩=some (.bool sq)/\w'.cell? ⟨Qb,1,none⟩=some (.slice aq nq cq)/\w'.cell? ⟨Qb,2,none⟩=some (.bool tq)/\w'.cell? ⟨Qb,3,none⟩=some (.slice aq2 nq2 cq2)/\w'.cell? ⟨t,c,none⟩=some (.slice (some ⟨rb2 c,0,none⟩) (n+1) (rc2 c))/\w'.cell? ⟨rb2 c,j*4,none⟩=some (.bool sp)/\w'.cell? ⟨rb2 c,j*4+1,none⟩=some (.slice ap np cp)/\w'.cell? ⟨rb2 c,j*4+2,none⟩=some (.bool tp)/\w'.cell? ⟨rb2 c,j*4+3,none⟩=some (.slice ap2 np2 cp2)):=
                jj (fun w' hb=>⟨bel1 hb (QM.out.hdr i h4) QM.out.gl,bel1 hb HRI.out.c0 HRI.out.lt,bel1 hb HRI.out.c1 HRI.out.lt,bel1 hb HRI.out.c2 HRI.out.lt,bel1 hb HRI.out.c3 HRI.out.lt,
                 bel1 hb OQ.out.c0 OQ.out.lt,bel1 hb OQ.out.c1 OQ.out.lt,bel1 hb OQ.out.c2 OQ.out.lt,bel1 hb OQ.out.c3 OQ.out.lt,
                 bel1 hb (QM.out.hdr c h) QM.out.gl,bel1 hb HRP.out.c0 HRP.out.lt,bel1 hb HRP.out.c1 HRP.out.lt,bel1 hb HRP.out.c2 HRP.out.lt,bel1 hb HRP.out.c3 HRP.out.lt⟩)
               have VL:=jj (jr wj).drew;go_wp2;refine wp_region_last (S:=fun w'=>w'.cell? ⟨t,i,none⟩=some (.slice (some ⟨rb2 i,0,none⟩) (n+1) (rc2 i))/\w'.cell? ⟨rb2 i,j*4,none⟩=some (.bool s5)/\w'.cell? ⟨rb2 i,j*4+1,none⟩=some (.slice a5 n5 c5)/\w'.cell? ⟨rb2 i,j*4+2,none⟩=some (.bool t5)/\w'.cell? ⟨rb2 i,j*4+3,none⟩=some (.slice a6 n6 c6)/\w'.cell? ⟨Qb,0,none⟩=some (.bool sq)/\w'.cell? ⟨Qb,1,none⟩=some (.slice aq nq cq)/\w'.cell? ⟨Qb,2,none⟩=some (.bool tq)/\w'.cell? ⟨Qb,3,none⟩=some (.slice aq2 nq2 cq2)/\w'.cell? ⟨t,c,none⟩=some (.slice (some ⟨rb2 c,0,none⟩) (n+1) (rc2 c))/\w'.cell? ⟨rb2 c,j*4,none⟩=some (.bool sp)/\w'.cell? ⟨rb2 c,j*4+1,none⟩=some (.slice ap np cp)/\w'.cell? ⟨rb2 c,j*4+2,none⟩=some (.bool tp)/\w'.cell? ⟨rb2 c,j*4+3,none⟩=some (.slice ap2 np2 cp2)) (by as_aux_lemma=>kernel_rfl) (by as_aux_lemma=>kernel_rfl) (keepR.out _ VL.out) (fun hHeld=>?_);simp only [List.pop_toArray,List.dropLast_cons_cons,List.dropLast_singleton];refine wtk_begin [0,1,2,3,4,5,6,7,8,9,10,11,12,13,14,15,16,17,18,19] ?_
               iterate 20 (refine wtk (v:=?_) rfl (by as_aux_lemma=>kernel_rfl) (fun _ _ _ h=>h) (by kernel_rfl) ?_ (by assumption) ?_;rotate_left;(focus intro w0 hSw;(try dsimp only at hSw);go_simp;all_goals (with_reducible rfl));simp only [Act.put,js,jz,jc])
               refine wtk_end ?_;refine wpAnyH_ready (rs:=[20]) (by as_aux_lemma=>kernel_rfl) (by simp) ?_;refine AllReadyH.cons rfl (fun Kn hKn=>?_) AllReadyH.nil;go_simp
               (go_at_call 48;(with_reducible refine (qv_mul _ _ (N i c / N c c) (N c j) (2*K) _ (HQT.out.mono VL.out jl) ((HQP.out.mono VL.out jl).le (by omega)) (by omega)).mono ?_);rintro e w7 ⟨r7,rfl,hr7,hb7⟩;obtain⟨s7,a7,n7,c7,t7,b7,l7,k7,rfl,QK7⟩:=hr7.shape;clear hr7;have VL:=jj (jb VL.out hb7))
               go_wp2_with fail;refine hKn.out _ _ (keepR.out _ VL.out) (fun hHeld=>?_);clear hKn Kn
               (try simp only [Act.put,js,jz,jc])
               refine wpAnyH_ready (rs:=[21]) (by as_aux_lemma=>kernel_rfl) (by simp) ?_;refine AllReadyH.cons rfl (fun Kn hKn=>?_) AllReadyH.nil;go_simp
               (go_at_call 28;(with_reducible refine (qv_sub _ _ (N i j) (N i c / N c c*N c j) (4*K) _ ((HQI.out.mono VL.out jl).le (by omega)) (QK7.out.le (by omega)) (by omega)).mono ?_);rintro e w8 ⟨r8,rfl,hr8,hb8⟩;obtain⟨s8,a8,n8,c8,t8,b8,l8,k8,rfl,QK8⟩:=hr8.shape;clear hr8;have VL:=jj (jb VL.out hb8))
               go_wp2_with fail;refine hKn.out _ _ (keepR.out _ VL.out) (fun hHeld=>?_);clear hKn Kn
               (try simp only [Act.put,js,jz,jc])
               refine wpAnyH_ready (rs:=[22]) (by as_aux_lemma=>kernel_rfl) (by simp) ?_;refine AllReadyH.cons rfl (fun Kn hKn=>?_) AllReadyH.nil;go_simp
               (go_at_call 50;(with_reducible refine (qv_low _ (N i j - N i c / N c c*N c j) (8*K+1) _ (QK8.out.le (by omega)) (by omega)).mono ?_);rintro e w9 ⟨r9,rfl,hr9,hb9⟩;have hr9:=QV.of hr9;obtain⟨x1,y1,z1,u1,x2,y2,z2,u2,rfl,QA⟩:=hr9.shape;clear hr9;have VL:=jj (jb VL.out hb9);have QM6:=jj (QM.out.below VL.out jl);obtain⟨p0,p1,p2,p3,pl⟩:=(bel4 VL.out HRI.out HRI.out.lt);have pf:=(QM6.out.row i h4).f)
               go_wp2_with fail;refine hKn.out _ _ (keepR.out _ VL.out) (fun hHeld=>?_);clear hKn Kn
               (try simp only [Act.put,js,jz,jc])
               refine wtk_begin [23] ?_
               (refine wtk (v:=?_) rfl (by as_aux_lemma=>kernel_rfl) (fun _ _ _ h=>h) (by kernel_rfl) ?_ (by assumption) ?_;rotate_left;(focus intro w0 hSw;(try dsimp only at hSw);go_simp;all_goals (with_reducible rfl));simp only [Act.put,js,jz,jc])
               refine wtk_end ?_;refine wpAnyH_done (by as_aux_lemma=>kernel_rfl) ?_ _;refine lastQ_step rfl (fun Kn hKn=>?_);go_simp;refine hKn.out _ _ ?_;clear hKn Kn
               (try simp only [Act.put,js,jz,jc])
               have HS6:=jj (QM6.out.set h4 h5 QA.out);have Q7:=jj (HS6.out.congr (fun r l _ _=>(clr_step hic r l).resolve_right (by omega)));have hq6:=HQB.out.1 i h4;have O6:=jj ((((OQ.out.below VL.out OQ.out.lt).setCell (rb2 i) (j*4) (.bool x1) (by omega)).setCell (rb2 i) (j*4+1) (.slice y1 z1 u1) (by omega)).setCell (rb2 i) (j*4+2) (.bool x2) (by omega) |>.setCell (rb2 i) (j*4+3) (.slice y2 z2 u2) (by omega));have HQ6:=jj ((HQT.out.mono VL.out jl).atR (.bool x1) (.slice y1 z1 u1) (.bool x2) (.slice y2 z2 u2) (bel4 VL.out HRI.out HRI.out.lt));have KW6:=jj (below_st4 (jb KW2.out VL.out) (QM.out.rB i h4) (.bool x1) (.slice y1 z1 u1) (.bool x2) (.slice y2 z2 u2) (o:=j*4));clear p0 p1 p2 p3 pf pl;go_wp2;go_roundw
               case rel=>exact⟨j+1,by omega,by omega,by go_num,Q7,KW6,O6,HQ6⟩
               case measure=>simp [intOf];omega
              ·obtain rfl:j=n+1:=by omega
               have e5:decide (((n+1:Nat):Int)<=(n:Int))=false:=by simp;omega
               have e5n:decide (n+1<=n)=false:=by simp
               go_wp2_with fail;go_roundw
               case rel=>exact⟨i+1,by omega,by go_num,jj (QM.out.congr (fun r l _ hl=>clr_end hic r l hl)),KW2⟩
               case measure=>simp [intOf];omega
         ·obtain rfl:n=i:=by omega
          have e4:decide ((n:Int)<(n:Int))=false:=by simp
          have GJn:=jj (GJs.out.clear h HNP.out);have KE:=jj (show 9*K=9 ^ (c+1)*11 by rw [HKE.out,Nat.pow_succ];omega);go_wp2_with fail;go_roundw
          case rel=>exact⟨c+1,by omega,by go_num,_,_,_,jj (QM.out.congr (fun r l _ _=>⟨rfl,by rw [<-KE.out];unfold clrK;split <;> omega⟩)),GJn,KW2⟩
          case measure=>simp [intOf];omega
      ·obtain rfl:n=a:=by omega
       have e2:((n:Int) == (n:Int))=true:=by simp
       go_wp2;go_ret2;obtain⟨y,hy,hyn,hyc⟩:=GJc.out.sing h HZ.out;refine⟨.inr ⟨rfl,y,fun i hi=>?_,c,h,by rw [hyc];decide⟩,KWc.out⟩;have:=hy i hi;unfold sumQ at this;rw [hyn,Rat.mul_zero,Rat.add_zero] at this;exact this
    ·obtain rfl:n=c:=by omega
     have e1:decide ((n:Int)<(n:Int))=false:=by simp
     obtain⟨i1,hinf1,hw0,hw1,hw2⟩:=info_parts infoZQ;obtain⟨x,hx⟩:∃ x:Nat->Rat,x=fun i=>M i n / M i i:=⟨_,rfl⟩
     have HX:=jj hx;clear hx;have R0:=jj (qrow_start wq (qN x) (qD x) (2*K));have V0:=jj (boxes1 wq (.cells #[] 40));have PV:Hid (∀ i,i<n->M i i≠0):=jj (fun i hi=>GJc.out.piv i hi);go_wp2;go_loopw [23,24] (fun v23 v24 wr=>∃ k:Nat,k<=n/\v24 = .int .i64 (k:Nat)/\∃ va vk xs,v23 = .slice va k vk/\Hid (QRow wr wq.heap.size (.slice va k vk) k (qN x) (qD x) (2*K) xs)/\Hid (Below wq.heap.size wq wr)) (fun _ v24 _=>n - (intOf v24).toNat)
     case atStart=>exact⟨0,by omega,rfl,_,0,[],rfl,R0,V0⟩
     case round=>
      clear R0 V0;obtain⟨k,hk,rfl,va,vl,xs,rfl,R,VQ⟩:=hrel;obtain⟨wk,rfl⟩:∃ wk:World,wk=wr:=⟨_,rfl⟩;by_cases h:k<n
      ·have e2:decide ((k:Int)<(n:Int))=true:=by simpa using h
       have e2n:decide (k<n)=true:=by simpa using h
       have hk1:k<n+1:=by omega
       have hn1:n<n+1:=by omega
       have ixk:=fun W=>ixW t n vk k h W
       have ixn:=fun W=>ixV (rb k) (n+1) (rc k) n hn1 W
       have ixkk:=fun W=>ixV (rb k) (n+1) (rc k) k hk1 W
       obtain⟨s5,a5,n5,c5,t5,a6,n6,c6,hri,zi⟩:=QM.out.at_ h hn1;obtain⟨sp,ap,np,cp,tp,ap2,np2,cp2,hrp,zp⟩:=QM.out.at_ h hk1;have HQP:=jj zp;have HQI:=jj zi;have HRP:=jj hrp;have HRI:=jj hri;have HPV:=jj (PV.out k h);have HXN:Hid (qN x k=(M k n / M k k).num):=jj (by unfold qN;rw [HX.out]);have HXD:Hid (qD x k=(((M k n / M k k).den:Nat):Int)):=jj (by unfold qD;rw [HX.out]);clear zp zi hrp hri
       have keepR:Hid (∀ w',Below wq.heap.size wq w'->w'.cell? ⟨t,k,none⟩=some (.slice (some ⟨rb k,0,none⟩) (n+1) (rc k))/\w'.cell? ⟨rb k,n*4,none⟩=some (.bool s5)/\w'.cell? ⟨rb k,n*4+1,none⟩=some (.slice a5 n5 c5)/\w'.cell? ⟨rb k,n*4+2,none⟩=some (.bool t5)/\w'.cell? ⟨rb k,n*4+3,none⟩=some (.slice a6 n6 c6)/\w'.cell? ⟨rb k,k*4,none⟩=some (.bool sp)/\w'.cell? ⟨rb k,k*4+1,none⟩=some (.slice ap np cp)/\w'.cell? ⟨rb k,k*4+2,none⟩=some (.bool tp)/\w'.cell? ⟨rb k,k*4+3,none⟩=some (.slice ap2 np2 cp2)):=
        jj (fun w' hb=>⟨bel1 hb (QM.out.hdr k h) QM.out.gl,bel1 hb HRI.out.c0 HRI.out.lt,bel1 hb HRI.out.c1 HRI.out.lt,bel1 hb HRI.out.c2 HRI.out.lt,bel1 hb HRI.out.c3 HRI.out.lt,
         bel1 hb HRP.out.c0 HRP.out.lt,bel1 hb HRP.out.c1 HRP.out.lt,bel1 hb HRP.out.c2 HRP.out.lt,bel1 hb HRP.out.c3 HRP.out.lt⟩)
       have VQ0:=VQ;have R:=jj R.out.drew;have VQ:=jj VQ.out.drew;go_wp2;refine wp_region_held_drew (S:=fun w'=>w'.cell? ⟨t,k,none⟩=some (.slice (some ⟨rb k,0,none⟩) (n+1) (rc k))/\w'.cell? ⟨rb k,n*4,none⟩=some (.bool s5)/\w'.cell? ⟨rb k,n*4+1,none⟩=some (.slice a5 n5 c5)/\w'.cell? ⟨rb k,n*4+2,none⟩=some (.bool t5)/\w'.cell? ⟨rb k,n*4+3,none⟩=some (.slice a6 n6 c6)/\w'.cell? ⟨rb k,k*4,none⟩=some (.bool sp)/\w'.cell? ⟨rb k,k*4+1,none⟩=some (.slice ap np cp)/\w'.cell? ⟨rb k,k*4+2,none⟩=some (.bool tp)/\w'.cell? ⟨rb k,k*4+3,none⟩=some (.slice ap2 np2 cp2)) (by as_aux_lemma=>kernel_rfl) (keepR.out _ VQ.out) (fun hHeld=>?_);refine wtk_begin [0,1,2,3,4,5,6,7,8,9,10,11,12,13,14] ?_
       iterate 15 (refine wtk (v:=?_) rfl (by as_aux_lemma=>kernel_rfl) (fun _ _ _ h=>h) (by kernel_rfl) ?_ (by assumption) ?_;rotate_left;(focus intro w0 hSw;(try dsimp only at hSw);go_simp;all_goals (with_reducible rfl));simp only [Act.put,js,jz,jc])
       refine wtk_end ?_;refine wpAnyH_ready (rs:=[15]) (by as_aux_lemma=>kernel_rfl) (by simp) ?_;refine AllReadyH.cons rfl (fun Kn hKn=>?_) AllReadyH.nil;go_simp
       (go_at_call 90;(with_reducible refine (qv_div _ _ (M k n) (M k k) K _ (HQI.out.mono VQ.out jl) (HQP.out.mono VQ.out jl) HPV.out (by omega)).mono ?_);rintro e w6 ⟨r6,rfl,hr6,hb6⟩;obtain⟨s7,a7,n7,c7,t7,b7,l7,k7,rfl,Q7⟩:=hr6.shape;clear hr6;have R:=jj (R.out.below hb6);have VQ:=jj (jb VQ.out hb6))
       go_wp2_with fail;refine hKn.out _ _ ?_ (fun hHeld=>?_)
       ·(try dsimp only);exact keepR.out _ VQ.out
       clear hKn Kn
       (try simp only [Act.put,js,jz,jc])
       refine wpAnyH_ready (rs:=[16]) (by as_aux_lemma=>kernel_rfl) (by simp) ?_;refine AllReadyH.cons rfl (fun Kn hKn=>?_) AllReadyH.nil;go_simp
       (go_at_call 50;(with_reducible refine (qv_low _ (M k n / M k k) (2*K) _ Q7.out (by omega)).mono ?_);rintro e w7 ⟨r7,rfl,hr7,hb7⟩;obtain⟨s8,a8,n8,c8,t8,b8,l8,k8,rfl,-,-,-⟩:=hr7.shape;have Q8:=jj hr7;clear hr7;have R:=jj (R.out.below hb7);have VQ:=jj (jb VQ.out hb7);have VQA:=jj (VQ.out.alloc VQ.out.size (.cells #[.bool s8,.slice a8 n8 c8,.bool t8,.slice b8 l8 k8] 40));have RA:=jj (R.out.alloc (.cells #[.bool s8,.slice a8 n8 c8,.bool t8,.slice b8 l8 k8] 40));have NEW:=jj (own4_rd (own4_new w7 w7.heap.size rfl (.bool s8) (.slice a8 n8 c8) (.bool t8) (.slice b8 l8 k8) 40));have QA:=jj (Q8.out.mono (boxes1 w7 (.cells #[.bool s8,.slice a8 n8 c8,.bool t8,.slice b8 l8 k8] 40)) jl);have HA3:=jj VQA.out.size)
       go_wp2_with fail;refine hKn.out _ _ ?_ (fun hHeld=>?_)
       ·(try dsimp only);exact keepR.out _ VQ.out
       clear hKn Kn
       (try simp only [Act.put,js,jz,jc])
       refine wpAnyH_ready (rs:=[17]) (by as_aux_lemma=>kernel_rfl) (by simp) ?_;refine AllReadyH.cons rfl (fun Kn hKn=>?_) AllReadyH.nil;go_simp;refine hKn.out _ _ ?_ (fun hHeld=>?_)
       ·(try dsimp only);exact keepR.out _ VQA.out
       clear hKn Kn
       (try simp only [Act.put,js,jz,jc])
       refine wpAnyH_ready (rs:=[18]) (by as_aux_lemma=>kernel_rfl) (by simp) ?_;refine AllReadyH.cons rfl (fun Kn hKn=>?_) AllReadyH.nil;refine step_append_kindz (by rfl) _ _ _ (by rfl) wq.heap.size 40 i1 _ 4 64 Tryz.underlying32 hinf1 hw0 hw1 hw2 rfl (by decide) (.slice va k vl) k xs (by rfl) RA.out.own RA.out.kind (noInt_4 _ _ _ _ _ _ _ _) ⟨w7.heap.size,0,none⟩ 1 1 [.bool s8,.slice a8 n8 c8,.bool t8,.slice b8 l8 k8] (by rfl) (by rfl) (cells4' NEW.out) (one4' _ _ _ _ rfl rfl rfl rfl) (noInt_4 _ _ _ _ _ _ _ _) (by unfold maxLen;omega) (by omega) HA3.out (by omega) ?_;intro v' w8 hown hgrow hblk hkind;obtain⟨va',vk',rfl⟩:=own_shape hown;have R8:=jj (RA.out.push QA.out HXN.out HXD.out hgrow hown hkind);have VQA:=jj (VQA.out.grown hgrow HA3.out (fun kk e=>(RA.out.own.lt kk e).1));refine hKn.out _ _ ?_ (fun hHeld=>?_)
       ·(try dsimp only);exact keepR.out _ VQA.out
       clear hKn Kn
       (try simp only [Act.put,js,jz,jc])
       refine wtk_begin [19] ?_
       (refine wtk (v:=?_) rfl (by as_aux_lemma=>kernel_rfl) (fun _ _ _ h=>h) (by kernel_rfl) ?_ (by assumption) ?_;rotate_left;(focus intro w0 hSw;(try dsimp only at hSw);go_simp;all_goals (with_reducible rfl));simp only [Act.put,js,jz,jc])
       refine wtk_end ?_;refine wpAnyH_done (by as_aux_lemma=>kernel_rfl) ?_ _;go_wp2;go_roundw
       case rel=>exact⟨k+1,by omega,by go_num,va',vk',_,rfl,R8,VQA⟩
       case measure=>simp [intOf];omega
      ·obtain rfl:n=k:=by omega
       have e2:decide ((n:Int)<(n:Int))=false:=by simp
       go_wp2;go_ret2;refine⟨.inl ⟨_,x,xs,rfl,?_,fun y=>?_⟩,jb KW.out VQ.out⟩
       ·have e:2*K=9 ^ n*22:=by rw [HKE.out];omega
        rw [<-e];exact R.out.base KW.out.size
       ·rw [GJc.out.sol y,HX.out]
end Go.Proofs.YtgmopcncbpdniaaGreat
