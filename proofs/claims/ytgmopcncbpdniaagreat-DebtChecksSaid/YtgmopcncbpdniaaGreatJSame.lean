import Derived.Test.YtgmopcncbpdniaaGreatJTakes
import Derived.Test.YtgmopcncbpdniaaGreatJDue
import Derived.Test.YtgmopcncbpdniaaGreatJPlainC
import Derived.Test.YtgmopcncbpdniaaGreatJRMat
import Derived.Test.YtgmopcncbpdniaaGreatJGrp2
import Derived.Test.YtgmopcncbpdniaaGreatJRNum
import Derived.Test.YtgmopcncbpdniaaGreatJClr
import Derived.Test.YtgmopcncbpdniaaGreatJMclr
set_option linter.unusedVariables false
set_option linter.unusedSimpArgs false
namespace Go.Proofs.YtgmopcncbpdniaaGreat
open Go.RowKit
attribute [local go_sem ↓] Go.wp_at_zero Go.wp_at_succ
theorem cmpR_zero (a b:Rat):cmpR a b=0↔a=b:=by
 unfold cmpR
 by_cases h:a<b
 ·rw [if_pos h]
  constructor
  ·intro e;cases e
  ·intro e;rw [e] at h;exact absurd h Rat.lt_irrefl
 ·rw [if_neg h];split <;> simp_all
def RClr (n:Nat) (cash:Nat→Int) (d:Nat→Nat→Int) (q:Nat→Rat) (k:Nat):Prop:=∀ i,i<k→0≤q i∧q i=dueQ n cash d q i
set_option maxHeartbeats 4000000 in
set_option maxRecDepth 100000 in
theorem rclears_any (vc vd vp:Value) (n:Nat) (cash:Nat→Int) (d:Nat→Nat→Int) (q:Nat→Rat) (K:Nat) (r:Bool) (w:World) (hr:r=true↔RClr n cash d q n) (hc:Ints w vc n cash) (hm:Mat w vd n (fun _=>n) d) (hp:VSl w vp n q K) (hn:n≤8) (hC:∀ i,i<n→0≤cash i∧cash i≤1000) (hd:∀ i j,0≤d i j) (hR:∀ i j,i<n→j<n→d i j≤1000) (hT:∀ i,i<n→sumF (d i) n≤100000) (hK5:5≤K) (hK:K≤100000000) :
  Calls Tryz.prog 32 #[vc,vd,vp] w fun ex w'=>ex = .returned (.bool r)∧Below w.heap.size w w':=by
 have HDM:=Lib.hid hm
 have HP:=Lib.hid hp
 have HC:=Lib.hid hc
 obtain⟨da,b,o,dc,ra,rb,ro,rc,rfl,-⟩:=hm
 obtain⟨ca,cb,co,cc,rfl,-⟩:=hc
 obtain⟨g,gc,rfl,hgc,hgl,hgv⟩:=hp.val
 have HV:=Lib.hid hgv
 have HGL:=Lib.hid hgl
 have HD0:=Lib.hid hd
 have HR0:=Lib.hid hR
 have HT0:=Lib.hid hT
 have HC0:=Lib.hid hC
 have HRR:=Lib.hid hr
 have KW0:=Lib.hid (Below.refl w.heap.size w)
 clear hgv hgl hd hR hT hC hp hr
 go_enter Tryz.func32,Tryz.ntmps32
 go_wp2
 go_loopw [7] (fun v7 wr=>∃ k:Nat,k≤n∧v7 = .int .i64 (k:Nat)∧Hid (RClr n cash d q k)∧Hid (Below w.heap.size w wr)) (fun v7 _=>n - (intOf v7).toNat)
 case atStart=>exact⟨0,by omega,rfl,Lib.hid (fun i hi=>by omega),KW0⟩
 case round=>
  clear KW0
  obtain⟨k,hk,rfl,OK,KW⟩:=hrel
  by_cases h:k<n
  ·have e1:decide ((k:Int)<(n:Int))=true:=by simpa using h
   have e1n:decide (k<n)=true:=by simpa using h
   have ixp:=fun W=>ixV g n gc k h W
   obtain⟨s5,a5,n5,c5,t5,b5,l5,k5,z0,z1,z2,z3,zq⟩:=HV.out k h
   have QK:=Lib.hid (QV.mono zq KW.out (Nat.le_refl _))
   have keepR:Hid (∀ w',Below wr.heap.size wr w'→w'.cell? ⟨g,k*4,none⟩=some (.bool s5)∧w'.cell? ⟨g,k*4+1,none⟩=some (.slice a5 n5 c5)∧w'.cell? ⟨g,k*4+2,none⟩=some (.bool t5)∧w'.cell? ⟨g,k*4+3,none⟩=some (.slice b5 l5 k5)):=
    Lib.hid (fun w' hb=>⟨bel1 hb (bel1 KW.out z0 HGL.out) (Nat.lt_of_lt_of_le HGL.out KW.out.size),bel1 hb (bel1 KW.out z1 HGL.out) (Nat.lt_of_lt_of_le HGL.out KW.out.size),bel1 hb (bel1 KW.out z2 HGL.out) (Nat.lt_of_lt_of_le HGL.out KW.out.size),bel1 hb (bel1 KW.out z3 HGL.out) (Nat.lt_of_lt_of_le HGL.out KW.out.size)⟩)
   have VL:=Lib.hid (Below.refl wr.heap.size wr).drew
   clear zq z0 z1 z2 z3
   by_cases hz:q k<0
   ·have d1:decide (cmpR (q k) 0<0)=true:=by rw [cmpR_lt];simpa using hz
    have HF:Hid (r=false):=Lib.hid (by
     rcases hr0:r with _ | _
     ·rfl
     ·have:=(HRR.out.1 hr0 k h).1
      exact absurd hz (Rat.not_lt.2 this))
    clear hz
    go_wp2
    refine wp_region_held_drew (S:=fun w'=>w'.cell? ⟨g,k*4,none⟩=some (.bool s5)∧w'.cell? ⟨g,k*4+1,none⟩=some (.slice a5 n5 c5)∧w'.cell? ⟨g,k*4+2,none⟩=some (.bool t5)∧w'.cell? ⟨g,k*4+3,none⟩=some (.slice b5 l5 k5)) (by kernel_rfl) (keepR.out _ VL.out) (fun hHeld=>?_)
    refine wtk_begin [0,1,2,3,4] ?_
    iterate 5 (refine wtk (v:=?_) rfl (by kernel_rfl) (fun _ _ _ h=>h) (by kernel_rfl) ?_ (by assumption) ?_;rotate_left;(focus intro w0 hSw;(try dsimp only at hSw);go_simp;all_goals (with_reducible rfl));simp only [Act.put,List.setIfInBounds_toArray,List.set_cons_zero,List.set_cons_succ])
    refine wtk_end ?_
    refine wpAnyH_ready (rs:=[5]) (by kernel_rfl) (by simp) ?_
    refine AllReadyH.cons rfl (fun Kn hKn=>?_) AllReadyH.nil
    go_simp
    (go_at_call 29;(with_reducible refine (qv_sign (q k) K _ (QK.out.mono VL.out (Nat.le_refl _))).mono ?_);rintro e w3 ⟨rfl,hb3⟩;have VL:=Lib.hid (VL.out.trans (hb3.mono VL.out.size)))
    go_wp2_with fail
    refine hKn.out _ _ ?_ (fun hHeld=>?_)
    ·(try dsimp only);exact keepR.out _ VL.out
    clear hKn Kn
    (try simp only [Act.put,List.setIfInBounds_toArray,List.set_cons_zero,List.set_cons_succ])
    refine wtk_begin [6,7] ?_
    iterate 2 (refine wtk (v:=?_) rfl (by kernel_rfl) (fun _ _ _ h=>h) (by kernel_rfl) ?_ (by assumption) ?_;rotate_left;(focus intro w0 hSw;(try dsimp only at hSw);go_simp;all_goals (with_reducible rfl));simp only [Act.put,List.setIfInBounds_toArray,List.set_cons_zero,List.set_cons_succ])
    refine wtk_end ?_
    refine wtk_begin [8,9,10,11,12,13,14,15,16,17,18] ?_
    iterate 11 (refine wtk_un rfl (by kernel_rfl) (fun _ _ _ h=>h) (by kernel_rfl) (by assumption) ?_;simp only [List.getElem_toArray,List.getElem_cons_succ,List.getElem_cons_zero,Act.put,List.setIfInBounds_toArray,List.set_cons_zero,List.set_cons_succ])
    refine wtk_end ?_
    refine wtk_begin [19] ?_
    (refine wtk (v:=?_) rfl (by kernel_rfl) (fun _ _ _ h=>h) (by kernel_rfl) ?_ (by assumption) ?_;rotate_left;(focus intro w0 hSw;(try dsimp only at hSw);go_simp;all_goals (with_reducible rfl));simp only [Act.put,List.setIfInBounds_toArray,List.set_cons_zero,List.set_cons_succ])
    refine wtk_end ?_
    refine wpAnyH_done (by kernel_rfl) ?_ _
    go_wp2
    go_ret
    exact⟨by rw [HF.out];rfl,KW.out.trans (VL.out.mono KW.out.size)⟩
   ·have d1:decide (cmpR (q k) 0<0)=false:=by rw [cmpR_lt];simpa using hz
    have HZ:=Lib.hid (Rat.not_lt.1 hz)
    clear hz
    by_cases he:q k=dueQ n cash d q k
    ·have d2:(cmpR (q k) (dueQ n cash d q k) != 0)=false:=by rw [(cmpR_zero _ _).2 he];rfl
     have d3:(cmpR (q k) (dueQ n cash d q k) == 0)=true:=by rw [(cmpR_zero _ _).2 he];rfl
     have HE:=Lib.hid he
     clear he
     go_wp2
     refine wp_region_held_drew (S:=fun w'=>w'.cell? ⟨g,k*4,none⟩=some (.bool s5)∧w'.cell? ⟨g,k*4+1,none⟩=some (.slice a5 n5 c5)∧w'.cell? ⟨g,k*4+2,none⟩=some (.bool t5)∧w'.cell? ⟨g,k*4+3,none⟩=some (.slice b5 l5 k5)) (by kernel_rfl) (keepR.out _ VL.out) (fun hHeld=>?_)
     refine wtk_begin [0,1,2,3,4] ?_
     iterate 5 (refine wtk (v:=?_) rfl (by kernel_rfl) (fun _ _ _ h=>h) (by kernel_rfl) ?_ (by assumption) ?_;rotate_left;(focus intro w0 hSw;(try dsimp only at hSw);go_simp;all_goals (with_reducible rfl));simp only [Act.put,List.setIfInBounds_toArray,List.set_cons_zero,List.set_cons_succ])
     refine wtk_end ?_
     refine wpAnyH_ready (rs:=[5]) (by kernel_rfl) (by simp) ?_
     refine AllReadyH.cons rfl (fun Kn hKn=>?_) AllReadyH.nil
     go_simp
     (go_at_call 29;(with_reducible refine (qv_sign (q k) K _ (QK.out.mono VL.out (Nat.le_refl _))).mono ?_);rintro e w3 ⟨rfl,hb3⟩;have VL:=Lib.hid (VL.out.trans (hb3.mono VL.out.size)))
     go_wp2_with fail
     refine hKn.out _ _ ?_ (fun hHeld=>?_)
     ·(try dsimp only);exact keepR.out _ VL.out
     clear hKn Kn
     (try simp only [Act.put,List.setIfInBounds_toArray,List.set_cons_zero,List.set_cons_succ])
     refine wtk_begin [6,7,8,9,10,11,12,13,14,15] ?_
     iterate 10 (refine wtk (v:=?_) rfl (by kernel_rfl) (fun _ _ _ h=>h) (by kernel_rfl) ?_ (by assumption) ?_;rotate_left;(focus intro w0 hSw;(try dsimp only at hSw);go_simp;all_goals (with_reducible rfl));simp only [Act.put,List.setIfInBounds_toArray,List.set_cons_zero,List.set_cons_succ])
     refine wtk_end ?_
     refine wpAnyH_ready (rs:=[16]) (by kernel_rfl) (by simp) ?_
     refine AllReadyH.cons rfl (fun Kn hKn=>?_) AllReadyH.nil
     go_simp
     (go_at_call 63;(with_reducible refine (due_any _ _ _ n k cash d q K _ (HC.out.mono (KW.out.trans (VL.out.mono KW.out.size)) (Nat.le_refl _)) (HDM.out.mono (KW.out.trans (VL.out.mono KW.out.size)) (Nat.le_refl _)) (HP.out.mono (KW.out.trans (VL.out.mono KW.out.size)) (Nat.le_refl _)) h hn HC0.out HD0.out HR0.out HT0.out hK5 hK).mono ?_);rintro e w4 ⟨r4,rfl,hr4,hb4⟩;obtain⟨s4,a4,n4,c4,t4,b4,l4,k4,rfl,QD⟩:=hr4.shape;clear hr4;have VL:=Lib.hid (VL.out.trans (hb4.mono VL.out.size)))
     go_wp2_with fail
     refine hKn.out _ _ ?_ (fun hHeld=>?_)
     ·(try dsimp only);exact keepR.out _ VL.out
     clear hKn Kn
     (try simp only [Act.put,List.setIfInBounds_toArray,List.set_cons_zero,List.set_cons_succ])
     refine wpAnyH_ready (rs:=[17]) (by kernel_rfl) (by simp) ?_
     refine AllReadyH.cons rfl (fun Kn hKn=>?_) AllReadyH.nil
     go_simp
     (go_at_call 14;(with_reducible refine (qv_cmp _ _ (q k) (dueQ n cash d q k) (1024*(K+1)+1) _ ((QK.out.mono VL.out (Nat.le_refl _)).le (by omega)) QD.out (by omega)).mono ?_);rintro e w5 ⟨rfl,hb5⟩;have VL:=Lib.hid (VL.out.trans (hb5.mono VL.out.size)))
     go_wp2_with fail
     refine hKn.out _ _ ?_ (fun hHeld=>?_)
     ·(try dsimp only);exact keepR.out _ VL.out
     clear hKn Kn
     (try simp only [Act.put,List.setIfInBounds_toArray,List.set_cons_zero,List.set_cons_succ])
     refine wtk_begin [18,19] ?_
     iterate 2 (refine wtk (v:=?_) rfl (by kernel_rfl) (fun _ _ _ h=>h) (by kernel_rfl) ?_ (by assumption) ?_;rotate_left;(focus intro w0 hSw;(try dsimp only at hSw);go_simp;all_goals (with_reducible rfl));simp only [Act.put,List.setIfInBounds_toArray,List.set_cons_zero,List.set_cons_succ])
     refine wtk_end ?_
     refine wpAnyH_done (by kernel_rfl) ?_ _
     go_wp2
     go_roundw
     case rel=>exact⟨k+1,by omega,by go_num,Lib.hid (fun i hi=>by
      by_cases e:i=k
      ·rw [e];exact⟨HZ.out,HE.out⟩
      ·exact OK.out i (by omega)),Lib.hid (KW.out.trans (VL.out.mono KW.out.size))⟩
     case measure=>simp [intOf];omega
    ·have d2:(cmpR (q k) (dueQ n cash d q k) != 0)=true:=by
      rw [bne_iff_ne];exact fun e=>he ((cmpR_zero _ _).1 e)
     have d3:(cmpR (q k) (dueQ n cash d q k) == 0)=false:=by
      rw [beq_eq_false_iff_ne];exact fun e=>he ((cmpR_zero _ _).1 e)
     have HF:Hid (r=false):=Lib.hid (by
      rcases hr0:r with _ | _
      ·rfl
      ·exact absurd (HRR.out.1 hr0 k h).2 he)
     clear he
     go_wp2
     refine wp_region_held_drew (S:=fun w'=>w'.cell? ⟨g,k*4,none⟩=some (.bool s5)∧w'.cell? ⟨g,k*4+1,none⟩=some (.slice a5 n5 c5)∧w'.cell? ⟨g,k*4+2,none⟩=some (.bool t5)∧w'.cell? ⟨g,k*4+3,none⟩=some (.slice b5 l5 k5)) (by kernel_rfl) (keepR.out _ VL.out) (fun hHeld=>?_)
     refine wtk_begin [0,1,2,3,4] ?_
     iterate 5 (refine wtk (v:=?_) rfl (by kernel_rfl) (fun _ _ _ h=>h) (by kernel_rfl) ?_ (by assumption) ?_;rotate_left;(focus intro w0 hSw;(try dsimp only at hSw);go_simp;all_goals (with_reducible rfl));simp only [Act.put,List.setIfInBounds_toArray,List.set_cons_zero,List.set_cons_succ])
     refine wtk_end ?_
     refine wpAnyH_ready (rs:=[5]) (by kernel_rfl) (by simp) ?_
     refine AllReadyH.cons rfl (fun Kn hKn=>?_) AllReadyH.nil
     go_simp
     (go_at_call 29;(with_reducible refine (qv_sign (q k) K _ (QK.out.mono VL.out (Nat.le_refl _))).mono ?_);rintro e w3 ⟨rfl,hb3⟩;have VL:=Lib.hid (VL.out.trans (hb3.mono VL.out.size)))
     go_wp2_with fail
     refine hKn.out _ _ ?_ (fun hHeld=>?_)
     ·(try dsimp only);exact keepR.out _ VL.out
     clear hKn Kn
     (try simp only [Act.put,List.setIfInBounds_toArray,List.set_cons_zero,List.set_cons_succ])
     refine wtk_begin [6,7,8,9,10,11,12,13,14,15] ?_
     iterate 10 (refine wtk (v:=?_) rfl (by kernel_rfl) (fun _ _ _ h=>h) (by kernel_rfl) ?_ (by assumption) ?_;rotate_left;(focus intro w0 hSw;(try dsimp only at hSw);go_simp;all_goals (with_reducible rfl));simp only [Act.put,List.setIfInBounds_toArray,List.set_cons_zero,List.set_cons_succ])
     refine wtk_end ?_
     refine wpAnyH_ready (rs:=[16]) (by kernel_rfl) (by simp) ?_
     refine AllReadyH.cons rfl (fun Kn hKn=>?_) AllReadyH.nil
     go_simp
     (go_at_call 63;(with_reducible refine (due_any _ _ _ n k cash d q K _ (HC.out.mono (KW.out.trans (VL.out.mono KW.out.size)) (Nat.le_refl _)) (HDM.out.mono (KW.out.trans (VL.out.mono KW.out.size)) (Nat.le_refl _)) (HP.out.mono (KW.out.trans (VL.out.mono KW.out.size)) (Nat.le_refl _)) h hn HC0.out HD0.out HR0.out HT0.out hK5 hK).mono ?_);rintro e w4 ⟨r4,rfl,hr4,hb4⟩;obtain⟨s4,a4,n4,c4,t4,b4,l4,k4,rfl,QD⟩:=hr4.shape;clear hr4;have VL:=Lib.hid (VL.out.trans (hb4.mono VL.out.size)))
     go_wp2_with fail
     refine hKn.out _ _ ?_ (fun hHeld=>?_)
     ·(try dsimp only);exact keepR.out _ VL.out
     clear hKn Kn
     (try simp only [Act.put,List.setIfInBounds_toArray,List.set_cons_zero,List.set_cons_succ])
     refine wpAnyH_ready (rs:=[17]) (by kernel_rfl) (by simp) ?_
     refine AllReadyH.cons rfl (fun Kn hKn=>?_) AllReadyH.nil
     go_simp
     (go_at_call 14;(with_reducible refine (qv_cmp _ _ (q k) (dueQ n cash d q k) (1024*(K+1)+1) _ ((QK.out.mono VL.out (Nat.le_refl _)).le (by omega)) QD.out (by omega)).mono ?_);rintro e w5 ⟨rfl,hb5⟩;have VL:=Lib.hid (VL.out.trans (hb5.mono VL.out.size)))
     go_wp2_with fail
     refine hKn.out _ _ ?_ (fun hHeld=>?_)
     ·(try dsimp only);exact keepR.out _ VL.out
     clear hKn Kn
     (try simp only [Act.put,List.setIfInBounds_toArray,List.set_cons_zero,List.set_cons_succ])
     refine wtk_begin [18,19] ?_
     iterate 2 (refine wtk (v:=?_) rfl (by kernel_rfl) (fun _ _ _ h=>h) (by kernel_rfl) ?_ (by assumption) ?_;rotate_left;(focus intro w0 hSw;(try dsimp only at hSw);go_simp;all_goals (with_reducible rfl));simp only [Act.put,List.setIfInBounds_toArray,List.set_cons_zero,List.set_cons_succ])
     refine wtk_end ?_
     refine wpAnyH_done (by kernel_rfl) ?_ _
     go_wp2
     go_ret
     exact⟨by rw [HF.out];rfl,KW.out.trans (VL.out.mono KW.out.size)⟩
  ·obtain rfl:n=k:=by omega
   have e1:decide ((n:Int)<(n:Int))=false:=by simp
   have HT:Hid (r=true):=Lib.hid (HRR.out.2 OK.out)
   go_wp2
   go_ret
   exact⟨by rw [HT.out];rfl,KW.out⟩
end Go.Proofs.YtgmopcncbpdniaaGreat
namespace Go.Proofs.YtgmopcncbpdniaaGreat
section
variable {n:Nat} {cash:Nat→Int} {d:Nat→Nat→Int} {A P M L L0:Nat→Bool} {b:Bool} {i j:Nat}
theorem gd_iff {q:Nat→Rat} (hR:Rng n cash d) (hd:∀ i j,0≤d i j):(∀ i,i<n→GdQ n cash d q i)↔ClrQ n (cashQ cash) (totQ n d) (shQ n d) q:=by
 constructor
 ·intro h
  refine⟨fun i hi=>(h i hi).1,fun i hi=>?_,fun i hi=>?_,fun i hi=>?_⟩
  ·have:=(h i hi).2;unfold wantQ at this;split at this <;> grind
  ·have:=(h i hi).2;unfold wantQ at this;split at this <;> grind
  ·have:=(h i hi).2;unfold wantQ at this;split at this
   ·exact .inl this
   ·exact .inr this
 ·intro h i hi
  refine⟨h.pos i hi,?_⟩
  unfold wantQ
  have h1:=h.tot i hi;have h2:=h.has i hi
  rcases h.eq i hi with e | e
  ·split <;> grind
  ·split <;> grind
end
end Go.Proofs.YtgmopcncbpdniaaGreat
namespace Go.Proofs.YtgmopcncbpdniaaGreat
open Go.RowKit
theorem dL_pos (i j:Nat):0≤dL i j:=by unfold dL;split <;> (try split) <;> omega
theorem live_has (p:Nat→Rat):hasP 2 (cashQ cashL) (shQ 2 dL) p 0=1+p 1∧hasP 2 (cashQ cashL) (shQ 2 dL) p 1=p 0:=by
 have a:shQ 2 dL 0 0=0:=by decide +kernel
 have b:shQ 2 dL 1 0=1:=by decide +kernel
 have c:shQ 2 dL 0 1=1:=by decide +kernel
 have e:shQ 2 dL 1 1=0:=by decide +kernel
 have f:cashQ cashL 0=1:=by decide +kernel
 have g:cashQ cashL 1=0:=by decide +kernel
 unfold hasP
 simp only [sumQ,a,b,c,e,f,g]
 constructor <;> grind
theorem live_tot:totQ 2 dL 0=4∧totQ 2 dL 1=2:=by constructor <;> decide +kernel
theorem live_pays {ps:(Nat→Bool)→Nat→Rat} {q:Nat} (hps:PsOK 2 cashL dL ps) (h:Last 2 cashL dL ps q):PS 2 cashL dL ps q 0=3∧PS 2 cashL dL ps q 1=2:=by
 have hc:=(pays_of (rng_of dL_debts cashL_range dL_pos) dL_pos hps h).clr
 generalize PS 2 cashL dL ps q=p at hc
 have h0:=hc.eq 0 (by omega)
 have h1:=hc.eq 1 (by omega)
 have t0:=hc.tot 0 (by omega)
 have t1:=hc.tot 1 (by omega)
 have s0:=hc.has 0 (by omega)
 have s1:=hc.has 1 (by omega)
 rw [live_tot.1,(live_has p).1] at *
 rw [live_tot.2,(live_has p).2] at *
 rcases h0 with a | a <;> rcases h1 with b | b <;> constructor <;> grind
theorem live_zero {ps:(Nat→Bool)→Nat→Rat} (hps:PsOK 2 cashL dL ps):NW 2 cashL dL ps 0 0=true∧NW 2 cashL dL ps 0 1=false:=by
 have hR:=rng_of dL_debts cashL_range dL_pos
 obtain⟨x,hx⟩:=ps_rdy hps hR dL_pos 0
 have h0:=hx.sol.no 0 (by omega) rfl
 have h1:=hx.sol.no 1 (by omega) rfl
 rw [live_tot.1] at h0
 rw [live_tot.2] at h1
 have e:∀ i,FS 2 cashL dL ps 0 i=false:=fun _=>rfl
 constructor
 ·rw [nw_iff,e,(live_has _).1,live_tot.1,h1];decide +kernel
 ·rw [nw_iff,e,(live_has _).2,live_tot.2,h0];decide +kernel
theorem live_one {ps:(Nat→Bool)→Nat→Rat} (hps:PsOK 2 cashL dL ps):∀ i,i<2→NW 2 cashL dL ps 1 i=false:=by
 have hR:=rng_of dL_debts cashL_range dL_pos
 obtain⟨x,hx⟩:=ps_rdy hps hR dL_pos 1
 obtain⟨n0,n1⟩:=live_zero hps
 have f0:FS 2 cashL dL ps 1 0=true:=by rw [fs_succ,n0,Bool.or_true]
 have f1:FS 2 cashL dL ps 1 1=false:=by rw [fs_succ,n1];rfl
 have h0:=hx.sol.on 0 (by omega) f0
 have h1:=hx.sol.no 1 (by omega) f1
 rw [(live_has _).1] at h0
 rw [live_tot.2] at h1
 intro i hi
 rw [nw_iff]
 match i,hi with
 | 0,_=>rw [f0];rfl
 | 1,_=>
  have h2:PS 2 cashL dL ps 1 0=3:=by
   have e:PS 2 cashL dL ps 1 1=2:=h1
   have e2:PS 2 cashL dL ps 1 0=1+PS 2 cashL dL ps 1 1:=h0
   rw [e2,e];decide +kernel
  rw [f1,(live_has _).2,live_tot.2,h2];decide +kernel
theorem live_last {ps:(Nat→Bool)→Nat→Rat} {q:Nat} (hps:PsOK 2 cashL dL ps) (h:Last 2 cashL dL ps q):q=1∧rwM 2 cashL dL ps 0=1∧rwF 2 cashL dL ps 0 0=0:=by
 obtain⟨n0,n1⟩:=live_zero hps
 have e0:frL (NW 2 cashL dL ps 0) 2 = [0]:=by simp [frL,n0,n1]
 have m0:rwM 2 cashL dL ps 0=1:=by unfold rwM rankF;rw [e0];rfl
 have m1:rwM 2 cashL dL ps 1=0:=by
  unfold rwM rankF
  have:frL (NW 2 cashL dL ps 1) 2 = []:=by simp [frL,live_one hps 0 (by omega),live_one hps 1 (by omega)]
  rw [this];rfl
 refine⟨?_,m0,by unfold rwF frN;rw [e0];rfl⟩
 have h1:=h.zero
 by_cases a:q=0
 ·subst a;omega
 ·by_cases b:q=1
  ·exact b
  ·have:=h.pos 1 (by omega);omega
theorem live_txt (N:Nat) (h1:0<N) (h2:N<10):FracTxt (digS N) ((N:Nat):Int) 1:=by
 refine⟨digS N,⟨1,⟨by simpa using h2,fun e=>by omega,fun _=>⟨by omega,by simp;omega⟩⟩,rfl,fun i hi=>?_⟩,.inl ⟨rfl,by rw [if_neg (by omega)]⟩⟩
 have:i=0:=by rw [digS_size] at hi;omega
 subst this
 have h3:N=1∨N=2∨N=3∨N=4∨N=5∨N=6∨N=7∨N=8∨N=9:=by omega
 rcases h3 with e | e | e | e | e | e | e | e | e <;> subst e <;> rfl
theorem clear_live2 (vc vd:Value) (w:World) (hc:Ints w vc 2 cashL) (hd:Mat w vd 2 (fun _=>2) dL) :
  Calls Tryz.prog 11 #[vc,vd] w fun e w'=>∃ v,e = .returned (.tuple #[v,.int .i64 0])∧Sl w' v 2 (fun j=>.string (digS (payN j)))∧Below w.heap.size w w':=by
 obtain⟨ps,hps⟩:=ps_ex (rng_of dL_debts cashL_range dL_pos) (by omega) dL_pos
 refine (clear_any vc vd 2 cashL (fun _=>2) dL ps w hc hd dL_debts cashL_range dL_pos hps).mono ?_
 rintro e w' ⟨q,va,vk,ss,rfl,hl,ht,hs,hb⟩
 obtain⟨p0,p1⟩:=live_pays hps hl
 obtain⟨a,b,o,c,e,h2⟩:=hs
 refine⟨_,rfl,⟨a,b,o,c,e,h2.congr (fun i hi=>?_)⟩,hb⟩
 congr 1
 have h:=ht.txt i hi
 match i,hi with
 | 0,_=>rw [p0] at h;exact h.uniq (live_txt 3 (by omega) (by omega))
 | 1,_=>rw [p1] at h;exact h.uniq (live_txt 2 (by omega) (by omega))
theorem fails_live2 (vc vd:Value) (w:World) (hc:Ints w vc 2 cashL) (hd:Mat w vd 2 (fun _=>2) dL) :
  Calls Tryz.prog 15 #[vc,vd] w fun e w'=>∃ va vk,e = .returned (.tuple #[.slice va 1 vk,.int .i64 0])∧Mat w' (.slice va 1 vk) 1 (fun _=>1) (fun _ _=>0)∧Below w.heap.size w w':=by
 obtain⟨ps,hps⟩:=ps_ex (rng_of dL_debts cashL_range dL_pos) (by omega) dL_pos
 refine (fails_any vc vd 2 cashL (fun _=>2) dL ps w hc hd dL_debts cashL_range dL_pos hps).mono ?_
 rintro e w' ⟨q,va,vk,rfl,hl,hm,hb⟩
 obtain⟨rfl,m0,f0⟩:=live_last hps hl
 refine⟨va,vk,rfl,?_,hb⟩
 obtain⟨a,b,o,c,ra,rb,ro,rc,hv,h⟩:=hm.row_len (m':=fun _=>1) (fun i hi=>by
  obtain rfl:i=0:=by omega
  exact m0)
 refine⟨a,b,o,c,ra,rb,ro,rc,hv,⟨h.top,fun i hi=>(h.row i hi).congr (fun j hj=>?_)⟩⟩
 obtain rfl:i=0:=by omega
 obtain rfl:j=0:=by omega
 unfold ic
 rw [f0]
end Go.Proofs.YtgmopcncbpdniaaGreat
namespace Go.Proofs.YtgmopcncbpdniaaGreat
open Go.RowKit
attribute [local go_sem ↓] Go.wp_at_zero Go.wp_at_succ
set_option maxHeartbeats 2000000 in
set_option maxRecDepth 100000 in
theorem before_eq (v1 v2:Value) (n:Nat) (f:Nat→Int) (w:World) (h1:Ints w v1 n f) (h2:Ints w v2 n f) (hn:n≤1048576) :
  Calls Tryz.prog 91 #[v1,v2] w fun e w'=>e = .returned (.bool false)∧Drawn w w':=by
 obtain⟨a1,b1,o1,c1,rfl,s1⟩:=h1
 obtain⟨a2,b2,o2,c2,rfl,s2⟩:=h2
 have S1:=Lib.hid s1
 have S2:=Lib.hid s2
 clear s1 s2
 go_enter Tryz.func91,Tryz.ntmps91
 go_wp2
 go_loopw [5] (fun v5 wr=>∃ k:Nat,k≤n∧v5 = .int .i64 (k:Nat)∧Hid (Drawn w wr)) (fun v5 _=>n - (intOf v5).toNat)
 case atStart=>exact⟨0,by omega,rfl,Lib.hid (Drawn.refl _)⟩
 case round=>
  obtain⟨k,hk,rfl,hd⟩:=hrel
  by_cases h:k<n
  ·have d1:decide ((k:Int)<(n:Int))=true:=by simpa using h
   have d1n:decide (k<n)=true:=by simpa using h
   have ix1:=fun W=>ixI S1.out k c1 h W
   have ix2:=fun W=>ixI S2.out k c2 h W
   have x1:=(S1.out.drawn hd.out).cell k h
   have x2:=(S2.out.drawn hd.out).cell k h
   simp only [ic] at x1 x2
   have d2:(f k != f k)=false:=by simp
   go_wp2
   go_quiet (fail)
   go_wp2
   go_roundw
   case rel=>exact⟨k+1,by omega,by go_num,Lib.hid (hd.out.trans (Drawn.of _ _))⟩
   case measure=>simp [intOf];omega
  ·obtain rfl:k=n:=by omega
   have d1:decide ((k:Int)<(k:Int))=false:=by simp
   go_wp2
   go_ret
   exact⟨by first | rfl | (simp;done),hd.out⟩
theorem same_eq (v1 v2:Value) (n:Nat) (f:Nat→Int) (w:World) (h1:Ints w v1 n f) (h2:Ints w v2 n f) (hn:n≤1048576) :
  Calls Tryz.prog 56 #[v1,v2] w fun e w'=>e = .returned (.bool true)∧Drawn w w':=by
 have H1:=Lib.hid h1
 have H2:=Lib.hid h2
 have HD:=Lib.hid (Drawn.refl w)
 clear h1 h2
 go_enter Tryz.func56,Tryz.ntmps56
 go_wp2_with (first
  | (go_at_call 91;(with_reducible refine (before_eq v1 v2 n f _ (H1.out.drawn HD.out) (H2.out.drawn HD.out) hn).mono ?_);rintro e w1 ⟨rfl,hd⟩;have HD:=Lib.hid (HD.out.trans hd);clear hd)
  | (go_at_call 91;(with_reducible refine (before_eq v2 v1 n f _ (H2.out.drawn HD.out) (H1.out.drawn HD.out) hn).mono ?_);rintro e w2 ⟨rfl,hd⟩;have HD:=Lib.hid (HD.out.trans hd);clear hd))
 go_ret
 exact⟨rfl,HD.out⟩
set_option maxHeartbeats 2000000 in
set_option maxRecDepth 100000 in
theorem sameLists_eq (v1 v2:Value) (n:Nat) (m:Nat→Nat) (f:Nat→Nat→Int) (w:World) (h1:Mat w v1 n m f) (h2:Mat w v2 n m f) (hn:n≤1048576) (hm:∀ i,i<n→m i≤1048576) :
  Calls Tryz.prog 25 #[v1,v2] w fun e w'=>e = .returned (.bool true)∧Drawn w w':=by
 obtain⟨a1,b1,o1,c1,ra1,rb1,ro1,rc1,rfl,s1⟩:=h1
 obtain⟨a2,b2,o2,c2,ra2,rb2,ro2,rc2,rfl,s2⟩:=h2
 have S1:=Lib.hid s1
 have S2:=Lib.hid s2
 have HM:=Lib.hid hm
 clear s1 s2 hm
 have d0:((n:Int) != (n:Int))=false:=by simp
 go_enter Tryz.func25,Tryz.ntmps25
 go_wp2
 go_loopw [5] (fun v5 wr=>∃ k:Nat,k≤n∧v5 = .int .i64 (k:Nat)∧Hid (Drawn w wr)) (fun v5 _=>n - (intOf v5).toNat)
 case atStart=>exact⟨0,by omega,rfl,Lib.hid (Drawn.refl _)⟩
 case round=>
  obtain⟨k,hk,rfl,hd⟩:=hrel
  by_cases h:k<n
  ·have d1:decide ((k:Int)<(n:Int))=true:=by simpa using h
   have ix1:=fun W=>ixM S1.out.top k c1 h W
   have ix2:=fun W=>ixM S2.out.top k c2 h W
   have x1:=(S1.out.top.drawn hd.out).cell k h
   have x2:=(S2.out.top.drawn hd.out).cell k h
   go_wp2
   go_region_with (go_at_call 56;refine (same_eq _ _ (m k) (f k) _ ⟨_,_,_,_,rfl,((S1.out.drawn hd.out).row k h).drew⟩ ⟨_,_,_,_,rfl,((S2.out.drawn hd.out).row k h).drew⟩ (HM.out k h)).mono ?_;rintro e w1 ⟨rfl,hd1⟩)
   all_goals
    have HDD:=Lib.hid (hd.out.drew.trans hd1)
    clear hd1
    go_wp2
    go_roundw
    case rel=>exact⟨k+1,by omega,by go_num,HDD⟩
    case measure=>simp [intOf];omega
  ·obtain rfl:k=n:=by omega
   have d1:decide ((k:Int)<(k:Int))=false:=by simp
   go_wp2
   go_ret
   exact⟨rfl,hd.out⟩
set_option maxHeartbeats 2000000 in
set_option maxRecDepth 100000 in
theorem sameRow_eq (v1 v2:Value) (n:Nat) (f:Nat→ByteArray) (w:World) (h1:Sl w v1 n (fun j=>.string (f j))) (h2:Sl w v2 n (fun j=>.string (f j))) (hn:n≤1048576) :
  Calls Tryz.prog 43 #[v1,v2] w fun e w'=>e = .returned (.bool true)∧Drawn w w':=by
 obtain⟨a1,b1,o1,c1,rfl,s1⟩:=h1
 obtain⟨a2,b2,o2,c2,rfl,s2⟩:=h2
 have S1:=Lib.hid s1
 have S2:=Lib.hid s2
 clear s1 s2
 have d0:((n:Int) != (n:Int))=false:=by simp
 go_enter Tryz.func43,Tryz.ntmps43
 go_wp2
 go_loopw [5] (fun v5 wr=>∃ k:Nat,k≤n∧v5 = .int .i64 (k:Nat)∧Hid (Drawn w wr)) (fun v5 _=>n - (intOf v5).toNat)
 case atStart=>exact⟨0,by omega,rfl,Lib.hid (Drawn.refl _)⟩
 case round=>
  obtain⟨k,hk,rfl,hd⟩:=hrel
  by_cases h:k<n
  ·have d1:decide ((k:Int)<(n:Int))=true:=by simpa using h
   have g1:(0:Int)≤(k:Int):=Int.natCast_nonneg k
   have g2:(k:Int)<(n:Int):=by omega
   obtain rfl:=S1.out.at_ (by omega)
   obtain rfl:=S2.out.at_ (by omega)
   have x1:=(S1.out.drawn hd.out).cell k h
   have x2:=(S2.out.drawn hd.out).cell k h
   go_wp2
   go_quiet (fail)
   go_wp2
   go_roundw
   case rel=>exact⟨k+1,by omega,by go_num,Lib.hid (hd.out.trans (Drawn.of _ _))⟩
   case measure=>simp [intOf];omega
  ·obtain rfl:k=n:=by omega
   have d1:decide ((k:Int)<(k:Int))=false:=by simp
   go_wp2
   go_ret
   exact⟨rfl,hd.out⟩
end Go.Proofs.YtgmopcncbpdniaaGreat
