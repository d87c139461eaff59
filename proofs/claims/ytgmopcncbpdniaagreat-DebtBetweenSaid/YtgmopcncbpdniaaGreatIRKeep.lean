import Derived.Test.YtgmopcncbpdniaaGreatITakes
import Derived.Test.YtgmopcncbpdniaaGreatIDue
import Derived.Test.YtgmopcncbpdniaaGreatILive2
set_option linter.unusedVariables false
set_option linter.unusedSimpArgs false
namespace Go.Proofs.YtgmopcncbpdniaaGreat
open Go.RowKit
attribute [local go_sem ↓] Go.wp_at_zero Go.wp_at_succ
theorem cmpR_zero (a b:Rat):cmpR a b=0↔a=b:=by
 unfold cmpR
 by_cases h:a<b
 ·rw [if_pos h]
  constructor
  ·intro e;cases e
  ·intro e;rw [e] at h;exact absurd h Rat.lt_irrefl
 ·rw [if_neg h];split <;> simp_all
def RClr (n:Nat) (cash:Nat→Int) (d:Nat→Nat→Int) (q:Nat→Rat) (k:Nat):Prop:=∀ i,i<k→0≤q i∧q i=dueQ n cash d q i
set_option maxHeartbeats 4000000 in
set_option maxRecDepth 100000 in
theorem rclears_any (vc vd vp:Value) (n:Nat) (cash:Nat→Int) (d:Nat→Nat→Int) (q:Nat→Rat) (K:Nat) (r:Bool) (w:World) (hr:r=true↔RClr n cash d q n) (hc:Ints w vc n cash) (hm:Mat w vd n (fun _=>n) d) (hp:VSl w vp n q K) (hn:n≤8) (hC:∀ i,i<n→0≤cash i∧cash i≤1000) (hd:∀ i j,0≤d i j) (hR:∀ i j,i<n→j<n→d i j≤1000) (hT:∀ i,i<n→sumF (d i) n≤100000) (hK5:5≤K) (hK:K≤100000000) :
  Calls Tryz.prog 32 #[vc,vd,vp] w fun ex w'=>ex = .returned (.bool r)∧Below w.heap.size w w':=by
 have HDM:=Lib.hid hm
 have HP:=Lib.hid hp
 have HC:=Lib.hid hc
 obtain⟨da,b,o,dc,ra,rb,ro,rc,rfl,-⟩:=hm
 obtain⟨ca,cb,co,cc,rfl,-⟩:=hc
 obtain⟨g,gc,rfl,hgc,hgl,hgv⟩:=hp.val
 have HV:=Lib.hid hgv
 have HGL:=Lib.hid hgl
 have HD0:=Lib.hid hd
 have HR0:=Lib.hid hR
 have HT0:=Lib.hid hT
 have HC0:=Lib.hid hC
 have HRR:=Lib.hid hr
 have KW0:=Lib.hid (Below.refl w.heap.size w)
 clear hgv hgl hd hR hT hC hp hr
 go_enter Tryz.func32,Tryz.ntmps32
 go_wp2
 go_loopw [7] (fun v7 wr=>∃ k:Nat,k≤n∧v7 = .int .i64 (k:Nat)∧Hid (RClr n cash d q k)∧Hid (Below w.heap.size w wr)) (fun v7 _=>n - (intOf v7).toNat)
 case atStart=>exact⟨0,by omega,rfl,Lib.hid (fun i hi=>by omega),KW0⟩
 case round=>
  clear KW0
  obtain⟨k,hk,rfl,OK,KW⟩:=hrel
  by_cases h:k<n
  ·have e1:decide ((k:Int)<(n:Int))=true:=by simpa using h
   have e1n:decide (k<n)=true:=by simpa using h
   have ixp:=fun W=>ixV g n gc k h W
   obtain⟨s5,a5,n5,c5,t5,b5,l5,k5,z0,z1,z2,z3,zq⟩:=HV.out k h
   have QK:=Lib.hid (QV.mono zq KW.out (Nat.le_refl _))
   have keepR:Hid (∀ w',Below wr.heap.size wr w'→w'.cell? ⟨g,k*4,none⟩=some (.bool s5)∧w'.cell? ⟨g,k*4+1,none⟩=some (.slice a5 n5 c5)∧w'.cell? ⟨g,k*4+2,none⟩=some (.bool t5)∧w'.cell? ⟨g,k*4+3,none⟩=some (.slice b5 l5 k5)):=
    Lib.hid (fun w' hb=>⟨bel1 hb (bel1 KW.out z0 HGL.out) (Nat.lt_of_lt_of_le HGL.out KW.out.size),bel1 hb (bel1 KW.out z1 HGL.out) (Nat.lt_of_lt_of_le HGL.out KW.out.size),bel1 hb (bel1 KW.out z2 HGL.out) (Nat.lt_of_lt_of_le HGL.out KW.out.size),bel1 hb (bel1 KW.out z3 HGL.out) (Nat.lt_of_lt_of_le HGL.out KW.out.size)⟩)
   have VL:=Lib.hid (Below.refl wr.heap.size wr).drew
   clear zq z0 z1 z2 z3
   by_cases hz:q k<0
   ·have d1:decide (cmpR (q k) 0<0)=true:=by rw [cmpR_lt];simpa using hz
    have HF:Hid (r=false):=Lib.hid (by
     rcases hr0:r with _ | _
     ·rfl
     ·have:=(HRR.out.1 hr0 k h).1
      exact absurd hz (Rat.not_lt.2 this))
    clear hz
    go_wp2
    refine wp_region_held_drew (S:=fun w'=>w'.cell? ⟨g,k*4,none⟩=some (.bool s5)∧w'.cell? ⟨g,k*4+1,none⟩=some (.slice a5 n5 c5)∧w'.cell? ⟨g,k*4+2,none⟩=some (.bool t5)∧w'.cell? ⟨g,k*4+3,none⟩=some (.slice b5 l5 k5)) (by kernel_rfl) (keepR.out _ VL.out) (fun hHeld=>?_)
    refine wtk_begin [0,1,2,3,4] ?_
    iterate 5 (refine wtk (v:=?_) rfl (by kernel_rfl) (fun _ _ _ h=>h) (by kernel_rfl) ?_ (by assumption) ?_;rotate_left;(focus intro w0 hSw;(try dsimp only at hSw);go_simp;all_goals (with_reducible rfl));simp only [Act.put,List.setIfInBounds_toArray,List.set_cons_zero,List.set_cons_succ])
    refine wtk_end ?_
    refine wpAnyH_ready (rs:=[5]) (by kernel_rfl) (by simp) ?_
    refine AllReadyH.cons rfl (fun Kn hKn=>?_) AllReadyH.nil
    go_simp
    (go_at_call 29;(with_reducible refine (qv_sign (q k) K _ (QK.out.mono VL.out (Nat.le_refl _))).mono ?_);rintro e w3 ⟨rfl,hb3⟩;have VL:=Lib.hid (VL.out.trans (hb3.mono VL.out.size)))
    go_wp2_with fail
    refine hKn.out _ _ ?_ (fun hHeld=>?_)
    ·(try dsimp only);exact keepR.out _ VL.out
    clear hKn Kn
    (try simp only [Act.put,List.setIfInBounds_toArray,List.set_cons_zero,List.set_cons_succ])
    refine wtk_begin [6,7] ?_
    iterate 2 (refine wtk (v:=?_) rfl (by kernel_rfl) (fun _ _ _ h=>h) (by kernel_rfl) ?_ (by assumption) ?_;rotate_left;(focus intro w0 hSw;(try dsimp only at hSw);go_simp;all_goals (with_reducible rfl));simp only [Act.put,List.setIfInBounds_toArray,List.set_cons_zero,List.set_cons_succ])
    refine wtk_end ?_
    refine wtk_begin [8,9,10,11,12,13,14,15,16,17,18] ?_
    iterate 11 (refine wtk_un rfl (by kernel_rfl) (fun _ _ _ h=>h) (by kernel_rfl) (by assumption) ?_;simp only [List.getElem_toArray,List.getElem_cons_succ,List.getElem_cons_zero,Act.put,List.setIfInBounds_toArray,List.set_cons_zero,List.set_cons_succ])
    refine wtk_end ?_
    refine wtk_begin [19] ?_
    (refine wtk (v:=?_) rfl (by kernel_rfl) (fun _ _ _ h=>h) (by kernel_rfl) ?_ (by assumption) ?_;rotate_left;(focus intro w0 hSw;(try dsimp only at hSw);go_simp;all_goals (with_reducible rfl));simp only [Act.put,List.setIfInBounds_toArray,List.set_cons_zero,List.set_cons_succ])
    refine wtk_end ?_
    refine wpAnyH_done (by kernel_rfl) ?_ _
    go_wp2
    go_ret
    exact⟨by rw [HF.out];rfl,KW.out.trans (VL.out.mono KW.out.size)⟩
   ·have d1:decide (cmpR (q k) 0<0)=false:=by rw [cmpR_lt];simpa using hz
    have HZ:=Lib.hid (Rat.not_lt.1 hz)
    clear hz
    by_cases he:q k=dueQ n cash d q k
    ·have d2:(cmpR (q k) (dueQ n cash d q k) != 0)=false:=by rw [(cmpR_zero _ _).2 he];rfl
     have d3:(cmpR (q k) (dueQ n cash d q k) == 0)=true:=by rw [(cmpR_zero _ _).2 he];rfl
     have HE:=Lib.hid he
     clear he
     go_wp2
     refine wp_region_held_drew (S:=fun w'=>w'.cell? ⟨g,k*4,none⟩=some (.bool s5)∧w'.cell? ⟨g,k*4+1,none⟩=some (.slice a5 n5 c5)∧w'.cell? ⟨g,k*4+2,none⟩=some (.bool t5)∧w'.cell? ⟨g,k*4+3,none⟩=some (.slice b5 l5 k5)) (by kernel_rfl) (keepR.out _ VL.out) (fun hHeld=>?_)
     refine wtk_begin [0,1,2,3,4] ?_
     iterate 5 (refine wtk (v:=?_) rfl (by kernel_rfl) (fun _ _ _ h=>h) (by kernel_rfl) ?_ (by assumption) ?_;rotate_left;(focus intro w0 hSw;(try dsimp only at hSw);go_simp;all_goals (with_reducible rfl));simp only [Act.put,List.setIfInBounds_toArray,List.set_cons_zero,List.set_cons_succ])
     refine wtk_end ?_
     refine wpAnyH_ready (rs:=[5]) (by kernel_rfl) (by simp) ?_
     refine AllReadyH.cons rfl (fun Kn hKn=>?_) AllReadyH.nil
     go_simp
     (go_at_call 29;(with_reducible refine (qv_sign (q k) K _ (QK.out.mono VL.out (Nat.le_refl _))).mono ?_);rintro e w3 ⟨rfl,hb3⟩;have VL:=Lib.hid (VL.out.trans (hb3.mono VL.out.size)))
     go_wp2_with fail
     refine hKn.out _ _ ?_ (fun hHeld=>?_)
     ·(try dsimp only);exact keepR.out _ VL.out
     clear hKn Kn
     (try simp only [Act.put,List.setIfInBounds_toArray,List.set_cons_zero,List.set_cons_succ])
     refine wtk_begin [6,7,8,9,10,11,12,13,14,15] ?_
     iterate 10 (refine wtk (v:=?_) rfl (by kernel_rfl) (fun _ _ _ h=>h) (by kernel_rfl) ?_ (by assumption) ?_;rotate_left;(focus intro w0 hSw;(try dsimp only at hSw);go_simp;all_goals (with_reducible rfl));simp only [Act.put,List.setIfInBounds_toArray,List.set_cons_zero,List.set_cons_succ])
     refine wtk_end ?_
     refine wpAnyH_ready (rs:=[16]) (by kernel_rfl) (by simp) ?_
     refine AllReadyH.cons rfl (fun Kn hKn=>?_) AllReadyH.nil
     go_simp
     (go_at_call 63;(with_reducible refine (due_any _ _ _ n k cash d q K _ (HC.out.mono (KW.out.trans (VL.out.mono KW.out.size)) (Nat.le_refl _)) (HDM.out.mono (KW.out.trans (VL.out.mono KW.out.size)) (Nat.le_refl _)) (HP.out.mono (KW.out.trans (VL.out.mono KW.out.size)) (Nat.le_refl _)) h hn HC0.out HD0.out HR0.out HT0.out hK5 hK).mono ?_);rintro e w4 ⟨r4,rfl,hr4,hb4⟩;obtain⟨s4,a4,n4,c4,t4,b4,l4,k4,rfl,QD⟩:=hr4.shape;clear hr4;have VL:=Lib.hid (VL.out.trans (hb4.mono VL.out.size)))
     go_wp2_with fail
     refine hKn.out _ _ ?_ (fun hHeld=>?_)
     ·(try dsimp only);exact keepR.out _ VL.out
     clear hKn Kn
     (try simp only [Act.put,List.setIfInBounds_toArray,List.set_cons_zero,List.set_cons_succ])
     refine wpAnyH_ready (rs:=[17]) (by kernel_rfl) (by simp) ?_
     refine AllReadyH.cons rfl (fun Kn hKn=>?_) AllReadyH.nil
     go_simp
     (go_at_call 14;(with_reducible refine (qv_cmp _ _ (q k) (dueQ n cash d q k) (1024*(K+1)+1) _ ((QK.out.mono VL.out (Nat.le_refl _)).le (by omega)) QD.out (by omega)).mono ?_);rintro e w5 ⟨rfl,hb5⟩;have VL:=Lib.hid (VL.out.trans (hb5.mono VL.out.size)))
     go_wp2_with fail
     refine hKn.out _ _ ?_ (fun hHeld=>?_)
     ·(try dsimp only);exact keepR.out _ VL.out
     clear hKn Kn
     (try simp only [Act.put,List.setIfInBounds_toArray,List.set_cons_zero,List.set_cons_succ])
     refine wtk_begin [18,19] ?_
     iterate 2 (refine wtk (v:=?_) rfl (by kernel_rfl) (fun _ _ _ h=>h) (by kernel_rfl) ?_ (by assumption) ?_;rotate_left;(focus intro w0 hSw;(try dsimp only at hSw);go_simp;all_goals (with_reducible rfl));simp only [Act.put,List.setIfInBounds_toArray,List.set_cons_zero,List.set_cons_succ])
     refine wtk_end ?_
     refine wpAnyH_done (by kernel_rfl) ?_ _
     go_wp2
     go_roundw
     case rel=>exact⟨k+1,by omega,by go_num,Lib.hid (fun i hi=>by
      by_cases e:i=k
      ·rw [e];exact⟨HZ.out,HE.out⟩
      ·exact OK.out i (by omega)),Lib.hid (KW.out.trans (VL.out.mono KW.out.size))⟩
     case measure=>simp [intOf];omega
    ·have d2:(cmpR (q k) (dueQ n cash d q k) != 0)=true:=by
      rw [bne_iff_ne];exact fun e=>he ((cmpR_zero _ _).1 e)
     have d3:(cmpR (q k) (dueQ n cash d q k) == 0)=false:=by
      rw [beq_eq_false_iff_ne];exact fun e=>he ((cmpR_zero _ _).1 e)
     have HF:Hid (r=false):=Lib.hid (by
      rcases hr0:r with _ | _
      ·rfl
      ·exact absurd (HRR.out.1 hr0 k h).2 he)
     clear he
     go_wp2
     refine wp_region_held_drew (S:=fun w'=>w'.cell? ⟨g,k*4,none⟩=some (.bool s5)∧w'.cell? ⟨g,k*4+1,none⟩=some (.slice a5 n5 c5)∧w'.cell? ⟨g,k*4+2,none⟩=some (.bool t5)∧w'.cell? ⟨g,k*4+3,none⟩=some (.slice b5 l5 k5)) (by kernel_rfl) (keepR.out _ VL.out) (fun hHeld=>?_)
     refine wtk_begin [0,1,2,3,4] ?_
     iterate 5 (refine wtk (v:=?_) rfl (by kernel_rfl) (fun _ _ _ h=>h) (by kernel_rfl) ?_ (by assumption) ?_;rotate_left;(focus intro w0 hSw;(try dsimp only at hSw);go_simp;all_goals (with_reducible rfl));simp only [Act.put,List.setIfInBounds_toArray,List.set_cons_zero,List.set_cons_succ])
     refine wtk_end ?_
     refine wpAnyH_ready (rs:=[5]) (by kernel_rfl) (by simp) ?_
     refine AllReadyH.cons rfl (fun Kn hKn=>?_) AllReadyH.nil
     go_simp
     (go_at_call 29;(with_reducible refine (qv_sign (q k) K _ (QK.out.mono VL.out (Nat.le_refl _))).mono ?_);rintro e w3 ⟨rfl,hb3⟩;have VL:=Lib.hid (VL.out.trans (hb3.mono VL.out.size)))
     go_wp2_with fail
     refine hKn.out _ _ ?_ (fun hHeld=>?_)
     ·(try dsimp only);exact keepR.out _ VL.out
     clear hKn Kn
     (try simp only [Act.put,List.setIfInBounds_toArray,List.set_cons_zero,List.set_cons_succ])
     refine wtk_begin [6,7,8,9,10,11,12,13,14,15] ?_
     iterate 10 (refine wtk (v:=?_) rfl (by kernel_rfl) (fun _ _ _ h=>h) (by kernel_rfl) ?_ (by assumption) ?_;rotate_left;(focus intro w0 hSw;(try dsimp only at hSw);go_simp;all_goals (with_reducible rfl));simp only [Act.put,List.setIfInBounds_toArray,List.set_cons_zero,List.set_cons_succ])
     refine wtk_end ?_
     refine wpAnyH_ready (rs:=[16]) (by kernel_rfl) (by simp) ?_
     refine AllReadyH.cons rfl (fun Kn hKn=>?_) AllReadyH.nil
     go_simp
     (go_at_call 63;(with_reducible refine (due_any _ _ _ n k cash d q K _ (HC.out.mono (KW.out.trans (VL.out.mono KW.out.size)) (Nat.le_refl _)) (HDM.out.mono (KW.out.trans (VL.out.mono KW.out.size)) (Nat.le_refl _)) (HP.out.mono (KW.out.trans (VL.out.mono KW.out.size)) (Nat.le_refl _)) h hn HC0.out HD0.out HR0.out HT0.out hK5 hK).mono ?_);rintro e w4 ⟨r4,rfl,hr4,hb4⟩;obtain⟨s4,a4,n4,c4,t4,b4,l4,k4,rfl,QD⟩:=hr4.shape;clear hr4;have VL:=Lib.hid (VL.out.trans (hb4.mono VL.out.size)))
     go_wp2_with fail
     refine hKn.out _ _ ?_ (fun hHeld=>?_)
     ·(try dsimp only);exact keepR.out _ VL.out
     clear hKn Kn
     (try simp only [Act.put,List.setIfInBounds_toArray,List.set_cons_zero,List.set_cons_succ])
     refine wpAnyH_ready (rs:=[17]) (by kernel_rfl) (by simp) ?_
     refine AllReadyH.cons rfl (fun Kn hKn=>?_) AllReadyH.nil
     go_simp
     (go_at_call 14;(with_reducible refine (qv_cmp _ _ (q k) (dueQ n cash d q k) (1024*(K+1)+1) _ ((QK.out.mono VL.out (Nat.le_refl _)).le (by omega)) QD.out (by omega)).mono ?_);rintro e w5 ⟨rfl,hb5⟩;have VL:=Lib.hid (VL.out.trans (hb5.mono VL.out.size)))
     go_wp2_with fail
     refine hKn.out _ _ ?_ (fun hHeld=>?_)
     ·(try dsimp only);exact keepR.out _ VL.out
     clear hKn Kn
     (try simp only [Act.put,List.setIfInBounds_toArray,List.set_cons_zero,List.set_cons_succ])
     refine wtk_begin [18,19] ?_
     iterate 2 (refine wtk (v:=?_) rfl (by kernel_rfl) (fun _ _ _ h=>h) (by kernel_rfl) ?_ (by assumption) ?_;rotate_left;(focus intro w0 hSw;(try dsimp only at hSw);go_simp;all_goals (with_reducible rfl));simp only [Act.put,List.setIfInBounds_toArray,List.set_cons_zero,List.set_cons_succ])
     refine wtk_end ?_
     refine wpAnyH_done (by kernel_rfl) ?_ _
     go_wp2
     go_ret
     exact⟨by rw [HF.out];rfl,KW.out.trans (VL.out.mono KW.out.size)⟩
  ·obtain rfl:n=k:=by omega
   have e1:decide ((n:Int)<(n:Int))=false:=by simp
   have HT:Hid (r=true):=Lib.hid (HRR.out.2 OK.out)
   go_wp2
   go_ret
   exact⟨by rw [HT.out];rfl,KW.out⟩
end Go.Proofs.YtgmopcncbpdniaaGreat
namespace Go.Proofs.YtgmopcncbpdniaaGreat
variable {n:Nat} {cash:Nat→Int} {d:Nat→Nat→Int}
def keepP (n:Nat) (cash:Nat→Int) (d:Nat→Nat→Int) (p:Nat→Rat) (i:Nat):Rat:=hasP n (cashQ cash) (shQ n d) p i - p i
def keepI (n:Nat) (cash:Nat→Int) (d:Nat→Nat→Int) (F:Nat→Bool) (i r j:Nat):Int:=
 if r<n then (if j<n then payI n cash d F r j else if j=n then 0 else payI n cash d F r n)
 else (if j<n then (if j=i then tI n d i else 0) - eI n d j i else if j=n then 1 else cash i)
theorem keepI_low (F:Nat→Bool) (i r:Nat) (hr:r<n) (z:Nat→Rat):sumQ (fun j=>(keepI n cash d F i r j:Rat)*z j) (n+1)=sumQ (fun j=>(payI n cash d F r j:Rat)*z j) n:=by
 simp only [sumQ]
 have e:sumQ (fun j=>(keepI n cash d F i r j:Rat)*z j) n=sumQ (fun j=>(payI n cash d F r j:Rat)*z j) n:=sumQ_congr n (fun j hj=>by
  unfold keepI;rw [if_pos hr,if_pos hj])
 rw [e]
 have e2:keepI n cash d F i r n=0:=by unfold keepI;rw [if_pos hr,if_neg (Nat.lt_irrefl _),if_pos rfl]
 rw [e2];simp [Rat.add_zero]
theorem keepI_top (hd:∀ i j,0≤d i j) (F:Nat→Bool) (i:Nat) (hi:i<n) (z:Nat→Rat):sumQ (fun j=>(keepI n cash d F i n j:Rat)*z j) (n+1)=((tI n d i:Int):Rat)*z i - sumQ (fun j=>((tI n d j:Int):Rat)*z j*shQ n d j i) n+z n:=by
 simp only [sumQ]
 have e:sumQ (fun j=>(keepI n cash d F i n j:Rat)*z j) n=sumQ (fun j=>(if j=i then ((tI n d i:Int):Rat)*z i else 0)) n - sumQ (fun j=>((tI n d j:Int):Rat)*z j*shQ n d j i) n:=by
  rw [←sumQ_sub]
  refine sumQ_congr n (fun j hj=>?_)
  have e2:((tI n d j:Int):Rat)*z j*shQ n d j i=((eI n d j i:Int):Rat)*z j:=by
   rw [shQ_eq,Rat.div_def]
   have:=tI_ne (n:=n) hd j
   have h2:=Rat.mul_inv_cancel _ this
   grind
  rw [e2]
  unfold keepI
  rw [if_neg (Nat.lt_irrefl _),if_pos hj,Rat.intCast_sub]
  by_cases e:j=i
  ·subst e;simp;grind
  ·simp [e];grind
 rw [e,sumQ_one _ i n hi (fun k _ hn=>if_neg hn),if_pos rfl]
 have e2:keepI n cash d F i n n=1:=by unfold keepI;rw [if_neg (Nat.lt_irrefl _),if_neg (Nat.lt_irrefl _),if_pos rfl]
 rw [e2];simp
theorem keepI_sys (hR:Rng n cash d) (hn:n≤8) (hd:∀ i j,0≤d i j) {F:Nat→Bool} (hF:NoClosed n (shQ n d) (fun i=>F i=true)) {p:Nat→Rat} (hp:SolF n (cashQ cash) (totQ n d) (shQ n d) F p) (i:Nat) (hi:i<n) :
  SysI (n+1) (n+1) (fun _=>False) (keepI n cash d F i) 200000 (fun j=>if j<n then p j / ((tI n d j:Int):Rat) else keepP n cash d p i):=by
 have H:=payI_sys hR hn hd hF hp
 have hq:∀ j,((tI n d j:Int):Rat)*(p j / ((tI n d j:Int):Rat))=p j:=fun j=>by
  have h1:=tI_ne (n:=n) hd j
  have h2:=Rat.mul_inv_cancel _ h1
  rw [Rat.div_def];grind
 refine⟨fun r j hr hj=>?_,fun _ _ _ _ h=>h.elim,fun r hr=>?_,fun z _ hz=>?_⟩
 ·unfold keepI
  by_cases h1:r<n
  ·rw [if_pos h1]
   by_cases h2:j<n
   ·rw [if_pos h2];exact H.bnd r j h1 (by omega)
   ·rw [if_neg h2]
    split
    ·simp
    ·exact H.bnd r n h1 (Nat.le_refl _)
  ·rw [if_neg h1]
   have t1:=hR.tot i hi
   have c1:=hR.csh i hi
   have et:tI n d i≤100000∧0<tI n d i:=⟨by unfold tI;split <;> omega,tI_pos hd i⟩
   by_cases h2:j<n
   ·rw [if_pos h2]
    have ee:0≤eI n d j i∧eI n d j i≤1000:=⟨eI_nn hd j i,by unfold eI;have:=(hR.deb j i h2 hi).2;split <;> omega⟩
    split <;> omega
   ·rw [if_neg h2]
    split <;> omega
 ·by_cases h1:r<n
  ·rw [keepI_low F i r h1]
   have e:=H.sol r h1
   rw [sumQ_congr n (g:=fun j=>(payI n cash d F r j:Rat)*(p j / ((tI n d j:Int):Rat))) (fun j hj=>by rw [if_pos hj]),e]
   unfold keepI
   rw [if_pos h1,if_neg (by omega),if_neg (by omega)]
  ·obtain rfl:r=n:=by omega
   rw [keepI_top hd F i hi]
   rw [if_pos hi,if_neg (Nat.lt_irrefl _),hq i,sumQ_congr r (g:=fun j=>p j*shQ r d j i) (fun j hj=>by rw [if_pos hj,hq j])]
   unfold keepI
   rw [if_neg (Nat.lt_irrefl _),if_neg (by omega),if_neg (by omega)]
   unfold keepP hasP cashQ
   grind
 ·have h0:∀ j,j<n→z j=0:=H.ker z (fun j _ h=>h.elim) (fun r hr=>by rw [←keepI_low F i r hr];exact hz r (by omega))
  intro j hj
  by_cases h1:j<n
  ·exact h0 j h1
  ·obtain rfl:j=n:=by omega
   have h2:=hz j (by omega)
   rw [keepI_top hd F i hi,h0 i hi,sumQ_eq_zero j (fun k hk=>by rw [h0 k hk];simp)] at h2
   simp at h2
   grind
theorem bd_keep:bdI 200000 9<10 ^ 4000:=by decide +kernel
theorem keep_small (hR:Rng n cash d) (hn:n≤8) (hd:∀ i j,0≤d i j) {F:Nat→Bool} (hF:NoClosed n (shQ n d) (fun i=>F i=true)) {p:Nat→Rat} (hp:SolF n (cashQ cash) (totQ n d) (shQ n d) F p) (i:Nat) (hi:i<n) :
  (keepP n cash d p i).num.natAbs≤bdI 200000 9∧(keepP n cash d p i).den≤bdI 200000 9:=by
 obtain⟨P,Q,h1,h2,h3,h4⟩:=(keepI_sys hR hn hd hF hp i hi).bound n (by omega)
 have hb:=bdI_mono 200000 (n+1) 9 (by omega)
 rw [if_neg (Nat.lt_irrefl _)] at h4
 obtain⟨k1,k2⟩:=lowest_le h1 h4
 exact⟨Nat.le_trans k1 (Nat.le_trans h2 hb),Nat.le_trans k2 (Nat.le_trans h3 hb)⟩
end Go.Proofs.YtgmopcncbpdniaaGreat
namespace Go.Proofs.YtgmopcncbpdniaaGreat
open Go.RowKit
attribute [local go_sem ↓] Go.wp_at_zero Go.wp_at_succ
set_option maxHeartbeats 4000000 in
set_option maxRecDepth 100000 in
theorem rkeeps_any (vc vd vp:Value) (n:Nat) (cash:Nat→Int) (d:Nat→Nat→Int) (q:Nat→Rat) (K:Nat) (w:World) (hc:Ints w vc n cash) (hm:Mat w vd n (fun _=>n) d) (hp:VSl w vp n q K) (hn:n≤8) (hC:∀ i,i<n→0≤cash i∧cash i≤1000) (hd:∀ i j,0≤d i j) (hR:∀ i j,i<n→j<n→d i j≤1000) (hT:∀ i,i<n→sumF (d i) n≤100000) (hK5:5≤K) (hK:K≤50000000) :
  Calls Tryz.prog 27 #[vc,vd,vp] w fun ex w'=>∃ va vk xs,ex = .returned (.slice va n vk)∧VRow w' w.heap.size (.slice va n vk) n (keepP n cash d q) (2048*(K+1)+3) xs∧Below w.heap.size w w':=by
 obtain⟨i0,hinf,hz0,hz1,hz2⟩:=info_parts infoZQ
 have HDM:=Lib.hid hm
 have HP:=Lib.hid hp
 obtain⟨da,b,o,dc,ra,rb,ro,rc,rfl,-⟩:=hm
 obtain⟨ca,cb,co,cc,rfl,hcs⟩:=hc
 obtain⟨g,gc,rfl,hgc,hgl,hgv⟩:=hp.val
 have HCS:=Lib.hid hcs
 have HV:=Lib.hid hgv
 have HGL:=Lib.hid hgl
 have HD0:=Lib.hid hd
 have HR0:=Lib.hid hR
 have HT0:=Lib.hid hT
 have HC0:=Lib.hid hC
 have R0:=Lib.hid (vrow_start w (keepP n cash d q) (2048*(K+1)+3))
 have KW0:=Lib.hid (boxes1 w (.cells #[] 40))
 clear hcs hgv hgl hd hR hT hC hp
 go_enter Tryz.func27,Tryz.ntmps27
 go_wp2
 go_loopw [7,8] (fun v7 v8 wr=>∃ k:Nat,k≤n∧v8 = .int .i64 (k:Nat)∧∃ va vk xs,v7 = .slice va k vk∧Hid (VRow wr w.heap.size (.slice va k vk) k (keepP n cash d q) (2048*(K+1)+3) xs)∧Hid (Below w.heap.size w wr)) (fun _ v8 _=>n - (intOf v8).toNat)
 case atStart=>exact⟨0,by omega,rfl,_,0,[],rfl,R0,KW0⟩
 case round=>
  clear R0 KW0
  obtain⟨k,hk,rfl,va,vk,xs,rfl,R,KW⟩:=hrel
  by_cases h:k<n
  ·have e1:decide ((k:Int)<(n:Int))=true:=by simpa using h
   have e1n:decide (k<n)=true:=by simpa using h
   have ixp:=fun W=>ixV g n gc k h W
   have ixc:=fun W=>ixI HCS.out k cc h W
   obtain⟨s5,a5,n5,c5,t5,b5,l5,k5,z0,z1,z2,z3,zq⟩:=HV.out k h
   have QK:=Lib.hid (QV.mono zq KW.out (Nat.le_refl _))
   have y1:=HCS.out.cell k h
   simp only [ic] at y1
   have HW:Hid (-9223372036854775808≤cash k∧cash k<9223372036854775808):=Lib.hid (by have:=HC0.out k h;omega)
   have keepR:Hid (∀ w',Below w.heap.size w w'→w'.cell? ⟨cb,co+k,none⟩=some (.int .i64 (cash k))∧w'.cell? ⟨g,k*4,none⟩=some (.bool s5)∧w'.cell? ⟨g,k*4+1,none⟩=some (.slice a5 n5 c5)∧w'.cell? ⟨g,k*4+2,none⟩=some (.bool t5)∧w'.cell? ⟨g,k*4+3,none⟩=some (.slice b5 l5 k5)):=
    Lib.hid (fun w' hb=>⟨bel1 hb y1 (HCS.out.lt (by omega)),bel1 hb z0 HGL.out,bel1 hb z1 HGL.out,bel1 hb z2 HGL.out,bel1 hb z3 HGL.out⟩)
   have KW0:=KW
   have KW:=Lib.hid KW.out.drew
   have R:=Lib.hid R.out.drew
   clear zq z0 z1 z2 z3 y1
   go_wp2
   go_region_held3 (fun w'=>w'.cell? ⟨cb,co+k,none⟩=some (.int .i64 (cash k))∧w'.cell? ⟨g,k*4,none⟩=some (.bool s5)∧w'.cell? ⟨g,k*4+1,none⟩=some (.slice a5 n5 c5)∧w'.cell? ⟨g,k*4+2,none⟩=some (.bool t5)∧w'.cell? ⟨g,k*4+3,none⟩=some (.slice b5 l5 k5))
    (first | (with_reducible exact keepR.out _ KW0.out) | (with_reducible exact keepR.out _ KW.out) | (with_reducible exact keepR.out _ KWA.out))
    (first
    | (go_at_call 16;(with_reducible refine (qv_whole (cash k) _ HW.out.1 HW.out.2).mono ?_);rintro e w3 ⟨r3,rfl,hr3,hb3⟩;obtain⟨s3,a3,n3,c3,t3,b3,l3,k3,rfl,Q3⟩:=hr3.shape;clear hr3;have R:=Lib.hid (R.out.below hb3);have QK:=Lib.hid (QK.out.mono ((Below.refl wr.heap.size wr).drew.trans hb3) (Nat.le_refl _));have KW:=Lib.hid (KW.out.trans (hb3.mono KW.out.size)))
    | (go_at_call 19;(with_reducible refine (recv_any _ _ n k d q K _ (HDM.out.mono KW.out (Nat.le_refl _)) (HP.out.mono KW.out (Nat.le_refl _)) h hn HD0.out HR0.out HT0.out hK5 (by omega)).mono ?_);rintro e w4 ⟨r4,rfl,hr4,hb4⟩;have hr4:=QV.of hr4;obtain⟨s4,a4,n4,c4,t4,b4,l4,k4,rfl,Q4⟩:=hr4.shape;clear hr4;have R:=Lib.hid (R.out.below hb4);have Q3:=Lib.hid (Q3.out.mono hb4 (Nat.le_refl _));have QK:=Lib.hid (QK.out.mono hb4 (Nat.le_refl _));have KW:=Lib.hid (KW.out.trans (hb4.mono KW.out.size)))
    | (go_at_call 18;(with_reducible refine (qv_add _ _ ((cash k:Int):Rat) (sumQ (fun j=>q j*shQ n d j k) n) (512*(K+1)) _ (Q3.out.le (by omega)) Q4.out (by omega)).mono ?_);rintro e w5 ⟨r5,rfl,hr5,hb5⟩;obtain⟨s6,a6,n6,c6,t6,b6,l6,k6,rfl,Q6⟩:=hr5.shape;clear hr5;have R:=Lib.hid (R.out.below hb5);have QK:=Lib.hid (QK.out.mono hb5 (Nat.le_refl _));have KW:=Lib.hid (KW.out.trans (hb5.mono KW.out.size)))
    | (go_at_call 28;(with_reducible refine (qv_sub _ _ (((cash k:Int):Rat)+sumQ (fun j=>q j*shQ n d j k) n) (q k) (2*(512*(K+1))+1) _ Q6.out (QK.out.le (by omega)) (by omega)).mono ?_);rintro e w6 ⟨r6,rfl,hr6,hb6⟩;obtain⟨s7,a7,n7,c7,t7,b7,l7,k7,rfl,Q7⟩:=hr6.shape;clear hr6;have R:=Lib.hid (R.out.below hb6);have KW:=Lib.hid (KW.out.trans (hb6.mono KW.out.size)))
    | (go_at_call 50;(with_reducible refine (qv_low _ (((cash k:Int):Rat)+sumQ (fun j=>q j*shQ n d j k) n - q k) (2*(2*(512*(K+1))+1)+1) _ Q7.out (by omega)).mono ?_);rintro e w7 ⟨r7,rfl,hr7,hb7⟩;have hr7:=QV.of hr7;obtain⟨s8,a8,n8,c8,t8,b8,l8,k8,rfl,Q8⟩:=hr7.shape;clear hr7;have R:=Lib.hid (R.out.below hb7);have KW:=Lib.hid (KW.out.trans (hb7.mono KW.out.size));have KWA:=Lib.hid (KW.out.alloc KW.out.size (.cells #[.bool s8,.slice a8 n8 c8,.bool t8,.slice b8 l8 k8] 40));have RA:=Lib.hid (R.out.alloc (.cells #[.bool s8,.slice a8 n8 c8,.bool t8,.slice b8 l8 k8] 40));have NEW:=Lib.hid (own4_rd (own4_new w7 w7.heap.size rfl (.bool s8) (.slice a8 n8 c8) (.bool t8) (.slice b8 l8 k8) 40));have QA:=Lib.hid (Q8.out.mono (boxes1 w7 (.cells #[.bool s8,.slice a8 n8 c8,.bool t8,.slice b8 l8 k8] 40)) (Nat.le_refl _));have HA3:=Lib.hid KWA.out.size)
    | ((refine step_append_kindz (by rfl) _ _ _ (by rfl) w.heap.size 40 i0 _ 4 64 Tryz.underlying32 hinf hz0 hz1 hz2 rfl (by decide) (.slice va k vk) k xs (by rfl) RA.out.own RA.out.kind (noInt_4 _ _ _ _ _ _ _ _) ⟨w7.heap.size,0,none⟩ 1 1 [.bool s8,.slice a8 n8 c8,.bool t8,.slice b8 l8 k8] (by rfl) (by rfl) (cells4' NEW.out) (one4' _ _ _ _ rfl rfl rfl rfl) (noInt_4 _ _ _ _ _ _ _ _) (by unfold maxLen;omega) (by omega) HA3.out (by omega) ?_;intro v' w8 hown hgrow hblk hkind;obtain⟨va',vk',rfl⟩:=own_shape hown;have R8:=Lib.hid (RA.out.push (QA.out.le (show 2*(2*(512*(K+1))+1)+1≤2048*(K+1)+3 by omega)) (show keepP n cash d q k=_ from rfl) hgrow hown hkind);have KWA:=Lib.hid (KWA.out.grown hgrow HA3.out (fun kk e=>(RA.out.own.lt kk e).1)))))
   all_goals
    go_wp2
    go_roundw
    case rel=>exact⟨k+1,by omega,by go_num,va',vk',_,rfl,R8,KWA⟩
    case measure=>simp [intOf];omega
  ·obtain rfl:n=k:=by omega
   have e1:decide ((n:Int)<(n:Int))=false:=by simp
   go_wp2
   go_ret
   exact⟨va,vk,xs,rfl,R.out,KW.out⟩
end Go.Proofs.YtgmopcncbpdniaaGreat
