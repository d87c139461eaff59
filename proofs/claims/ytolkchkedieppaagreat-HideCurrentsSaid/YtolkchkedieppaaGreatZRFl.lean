import Derived.Test.YtolkchkedieppaaGreatZTakes
import Derived.Test.YtolkchkedieppaaGreatZFig
import Derived.Test.YtolkchkedieppaaGreatZRNum
import Derived.Test.YtolkchkedieppaaGreatZRInt
import Derived.Test.YtolkchkedieppaaGreatZPlainLx
import Derived.Test.YtolkchkedieppaaGreatZLastB
set_option linter.unusedVariables false
set_option linter.unusedSimpArgs false
namespace Go.Proofs.YtolkchkedieppaaGreat
open Go.RowKit
attribute [local go_sem ↓] Go.wp_at_zero Go.wp_at_succ
theorem QIs.den_ne {w:World} {s t:Bool} {a a2:Option Addr} {n c n2 c2 m:Nat} {p d:Int} (h:QIs w (.agg #[.bool s,.slice a n c,.bool t,.slice a2 n2 c2]) p d m):a2≠none:=by
 obtain⟨x1,y1,x2,y2,h0,g1,⟨u,e,hd,_⟩,g3⟩:=h
 injection h0 with h0
 simp only [Array.mk.injEq,List.cons.injEq,and_true] at h0
 obtain⟨_,_,e3,e4⟩:=h0
 injection e with e
 simp only [Array.mk.injEq,List.cons.injEq,and_true] at e
 obtain⟨_,e6⟩:=e
 obtain⟨a',b',o',c',e5,hs⟩:=hd
 rw [←e4] at e6
 rw [←e6] at e5
 injection e5 with e5 _ _
 have:=hs.at_ ((nd_pos _).2 (by omega))
 rw [e5,this]
 exact fun q=>by cases q
theorem QCur.of_sl {w:World} {v:Value} {n:Nat} {q:Nat→Rat} (h:QSl w v n (qN q) (qD q) 1000):QCur w v n q:=by
 obtain⟨g,cap,rfl,h1,h2,h3⟩:=h.val
 refine⟨_,_,rfl,fun _=>⟨g,rfl,h2,fun j hj=>?_⟩⟩
 obtain⟨s,a,m,c,t,a2,m2,c2,k1,k2,k3,k4,k5⟩:=h3 j hj
 exact⟨s,a,m,c,t,a2,m2,c2,⟨k1,k2,k3,k4,h2⟩,.inr ⟨k5.den_ne,QV.of k5⟩⟩
theorem cmpR_self (a:Rat):cmpR a a=0:=by unfold cmpR;rw [if_neg Rat.lt_irrefl,if_pos rfl]
theorem cmpR_pos {a:Rat} (h:0<a):cmpR a 0=1:=by
 unfold cmpR
 rw [if_neg (Rat.not_lt.2 (Rat.le_of_lt h)),if_neg (fun q=>by rw [q] at h;exact Rat.lt_irrefl h)]
structure FloM (w wx:World) (gn gb N:Nat) (P:Nat→Prop) (f:Nat→Rat) (K:Nat) (G:Int):Prop where
 row:RowV wx gn N P f (fun _=>K)
 box:∃ s a n c,Own2 wx gb (.bool s) (.slice a n c)∧ZIs wx (.agg #[.bool s,.slice a n c]) G 1000
 ne:gb≠gn
 hb:w.heap.size≤gb
 hn:w.heap.size≤gn
 kb:Below w.heap.size w wx
section
variable {w wx wy:World} {gn gb N:Nat} {P:Nat→Prop} {f:Nat→Rat} {K:Nat} {G:Int}
theorem FloM.below (h:FloM w wx gn gb N P f K G) (hb:Below wx.heap.size wx wy):FloM w wy gn gb N P f K G:=by
 obtain⟨s,a,n,c,h1,h2⟩:=h.box
 exact⟨h.row.below hb (Nat.le_refl _),⟨s,a,n,c,h1.below hb h1.lt,h2.mono hb (Nat.le_refl _)⟩,h.ne,h.hb,h.hn,h.kb.trans (hb.mono h.kb.size)⟩
theorem FloM.congr {P':Nat→Prop} {f':Nat→Rat} {K':Nat} (h:FloM w wx gn gb N P f K G) (e:∀ j,j<N→P' j→P j∧f j=f' j∧K≤K'):FloM w wx gn gb N P' f' K' G:=
 ⟨h.row.congr e,h.box,h.ne,h.hb,h.hn,h.kb⟩
theorem FloM.put {i:Nat} {s t:Bool} {a a2:Option Addr} {n c n2 c2 k:Nat} {q:Rat} (h:FloM w wx gn gb N P f K G) (hi:i<N) (hx:QV wx (.agg #[.bool s,.slice a n c,.bool t,.slice a2 n2 c2]) q k) (hk:k≤K) :
  FloM w (st4 wx gn (i*4) (.bool s) (.slice a n c) (.bool t) (.slice a2 n2 c2)) gn gb N (fun j=>j=i∨P j) (updQ f i q) K G:=by
 obtain⟨s',a',n',c',h1,h2⟩:=h.box
 obtain⟨s1,a1,m1,c1,t1,b1,m2,c3,hr,_⟩:=h.row.cell i hi
 have hne:gn≠gb:=fun e=>h.ne e.symm
 refine⟨(h.row.set hi rfl hx).congr (fun j hj p=>⟨p,rfl,?_⟩),⟨s',a',n',c',(((h1.setCell gn _ _ hne).setCell gn _ _ hne).setCell gn _ _ hne).setCell gn _ _ hne,h2.atR _ _ _ _ hr⟩,h.ne,h.hb,h.hn,below_st4 h.kb h.hn _ _ _ _⟩
 unfold updN
 split
 ·exact hk
 ·exact Nat.le_refl _
theorem FloM.keepQ {i:Nat} {v:Value} {x:Rat} {m:Nat} (h:FloM w wx gn gb N P f K G) (hi:i<N) (u0 u1 u2 u3:Value) (hx:QV wx v x m):QV (st4 wx gn (i*4) u0 u1 u2 u3) v x m:=h.row.keep hi rfl u0 u1 u2 u3 hx
theorem FloM.setG {s:Bool} {a:Option Addr} {n c:Nat} {G':Int} (h:FloM w wx gn gb N P f K G) (hz:ZIs wx (.agg #[.bool s,.slice a n c]) G' 1000) :
  FloM w ((wx.setCell ⟨gb,0,none⟩ (.bool s)).setCell ⟨gb,1,none⟩ (.slice a n c)) gn gb N P f K G':=by
 obtain⟨s',a',n',c',h1,h2⟩:=h.box
 exact⟨(h.row.storeFar (.bool s) h1.c0 (noInt_bool _) h.ne).storeFar (.slice a n c) (off_set (by decide) h1.c1) (noInt_slice _ _ _) h.ne,⟨s,a,n,c,h1.anew2 _ _,hz.off2 h1 (noInt_bool _) (noInt_slice _ _ _) _ _⟩,h.ne,h.hb,h.hn,(h.kb.setCell (p:=⟨gb,0,none⟩) h.hb _).setCell (p:=⟨gb,1,none⟩) h.hb _⟩
end
theorem netK_step (W:List (Int × Int)) (z:Nat→Rat) (k A B:Nat) (hA:wA W k=A) (hB:wB W k=B) (hAB:A≠B) (i:Nat) :
  netK W z i (k+1)=updQ (updQ (fun i=>netK W z i k) A (netK W z A k+z k)) B (netK W z B k - z k) i:=by
 have e:netK W z i (k+1)=netK W z i k+((if A=i then z k else 0) - (if B=i then z k else 0)):=by
  show sumQ _ k+((if wA W k=i then z k else 0) - (if wB W k=i then z k else 0))=_
  rw [hA,hB];rfl
 rw [e]
 unfold updQ
 by_cases q1:i=B
 ·rw [if_pos q1,if_neg (show ¬ A=i by omega),if_pos q1.symm,q1];grind
 ·rw [if_neg q1,if_neg (show ¬ B=i by omega)]
  by_cases q2:i=A
  ·rw [if_pos q2,if_pos q2.symm,q2];grind
  ·rw [if_neg q2,if_neg (show ¬ A=i by omega)];grind
set_option maxHeartbeats 8000000 in
set_option maxRecDepth 100000 in
theorem flows_any (N:Nat) (v u:Value) (W:List (Int × Int)) (z x:Nat→Rat) (T:Rat) (c:Nat→Int) (ss:Nat→ByteArray) (w:World) (hv:PrV w v W) (hu:Strs w u W.length ss) (hq:TxtQs W.length z ss)
  (hl:W.length≤24) (h2:2≤N) (hN2:N≤25) (hok:WiresOK N W) (hne:∀ k,k<W.length→wA W k≠wB W k) (hcon:ConOK N W) (hf:FloP N W z x T c) (hrt:nd ((0 - x (N - 1)) / T).num.natAbs≤1000∧nd ((0 - x (N - 1)) / T).den≤1000) :
  Calls Tryz.prog 28 #[.int .i64 (N:Nat),v,u] w fun e w'=>∃ s a n c t b n2 c2,e = .returned (.tuple #[.agg #[.bool s,.slice a n c,.bool t,.slice b n2 c2],.bool true])∧QV w' (.agg #[.bool s,.slice a n c,.bool t,.slice b n2 c2]) ((0 - x (N - 1)) / T) 1000∧Below w.heap.size w w':=by
 have HRT:=Lib.hid hrt
 clear hrt
 have HV:=Lib.hid hv
 have HU:=Lib.hid hu
 obtain⟨va,vk,rfl,hp⟩:=hv.ex
 obtain⟨ua,ub,uo,uc,rfl,hus⟩:=hu
 have HP:=Lib.hid hp
 have HUS:=Lib.hid hus
 have HQ:=Lib.hid hq
 have HOK:=Lib.hid hok
 have HNE:=Lib.hid hne
 have HC:=Lib.hid hcon
 have HF:=Lib.hid hf
 have hmk:=mkQq N (by omega)
 have KB:=Lib.hid (boxes1 w (.cells #[.bool false,.slice none 0 0,.bool false,.slice none 0 0] 59))
 have O6:=Lib.hid (own4_of w (.bool false) (.slice none 0 0) (.bool false) (.slice none 0 0) 59)
 have HV:=Lib.hid (HV.out.below KB.out)
 clear hp hus hv hq hok hne hcon hf
 go_enter Tryz.func28,Tryz.ntmps28
 go_upto_region 3 with (fail)
 obtain⟨b6,hb6⟩:∃ b6,b6=w.heap.size:=⟨_,rfl⟩
 have HB6:=Lib.hid hb6
 rw [←hb6] at O6 ⊢
 generalize w.alloc (.cells #[.bool false,.slice none 0 0,.bool false,.slice none 0 0] 59)=w1 at *
 clear hb6
 go_cut [8,9] (fun v8 v9 wx=>∃ gn gb,v8 = .pointer (some ⟨gb,0,none⟩)∧v9 = .slice (some ⟨gn,0,none⟩) N N∧Hid (FloM w1 wx gn gb N (fun _=>False) (fun _=>0) 1000 0))
 case first=>
  refine wp_region_held_drew (S:=fun w'=>True) (by kernel_rfl) (trivial) (fun hHeld=>?_)
  have KW:=Lib.hid ((Below.refl w1.heap.size w1).drew)
  refine wpAnyH_take (i:=1) (v:=?_) rfl (by kernel_rfl) (by kernel_rfl) (by kernel_rfl) (fun _ _ _ h=>h) (Or.inl ⟨by rfl,?_⟩) trivial ?_
  rotate_left
  ·(intro w0 hSw;(try dsimp only at hSw);go_simp;all_goals (with_reducible rfl))
  simp only [Act.put,List.setIfInBounds_toArray,List.set_cons_zero,List.set_cons_succ]
  refine wpAnyH_ready (rs:=[0,2,3]) (by kernel_rfl) (by simp) ?_
  refine AllReadyH.cons rfl (fun Kn hKn=>?_) (AllReadyH.cons rfl (fun Kn hKn=>?_) (AllReadyH.cons rfl (fun Kn hKn=>?_) (AllReadyH.nil)))
  ·skip
   go_simp
   (go_at_call 76;(with_reducible refine (zint_any 0 (by omega) (by omega) _).mono ?_);rintro e v1 ⟨z0,rfl,hz,hb⟩;obtain⟨s0,a0,n0,c0,rfl,-⟩:=hz.shape;have HZ:=Lib.hid hz;have HBK:=Lib.hid hb;clear hz hb)
   go_wp2_with fail
   refine hKn.out _ _ trivial (fun hHeld=>?_)
   clear hKn Kn
   (try simp only [Act.put,List.setIfInBounds_toArray,List.set_cons_zero,List.set_cons_succ])
   have KW:=Lib.hid (KW.out.trans (HBK.out.mono KW.out.size))
   clear HBK
   refine wpAnyH_ready (rs:=[2,3]) (by kernel_rfl) (by simp) ?_
   refine AllReadyH.cons rfl (fun Kn hKn=>?_) (AllReadyH.cons rfl (fun Kn hKn=>?_) (AllReadyH.nil))
   ·skip
    go_simp
    refine hKn.out _ _ trivial (fun hHeld=>?_)
    clear hKn Kn
    (try simp only [Act.put,List.setIfInBounds_toArray,List.set_cons_zero,List.set_cons_succ])
    have HBK:=Lib.hid ((Below.refl (v1).heap.size (v1)).alloc (Nat.le_refl _) (.cells (madeCells zR (N*4)) 59))
    have ROW2:=Lib.hid (RowV.made (v1) N (fun _=>0) (fun _=>1000))
    obtain⟨gn,hgn⟩:∃ gn,gn=(v1).heap.size:=⟨_,rfl⟩
    have HGN:Hid (w1.heap.size≤gn):=Lib.hid (by rw [hgn];exact KW.out.size)
    rw [←hgn] at ROW2
    (try rw [show (World.drew w1).heap.size=w1.heap.size from rfl] at hgn)
    (try rw [←hgn])
    generalize hnw:(v1).alloc (.cells (madeCells zR (N*4)) 59)=v2 at *
    have HZ:=Lib.hid (HZ.out.mono HBK.out (Nat.le_refl _))
    have KW:=Lib.hid (KW.out.trans (HBK.out.mono KW.out.size))
    have ROW:=ROW2
    clear ROW2 hgn hnw
    clear HBK
    refine wpAnyH_ready (rs:=[3]) (by kernel_rfl) (by simp) ?_
    refine AllReadyH.cons rfl (fun Kn hKn=>?_) (AllReadyH.nil)
    ·skip
     go_simp
     refine hKn.out _ _ trivial (fun hHeld=>?_)
     clear hKn Kn
     (try simp only [Act.put,List.setIfInBounds_toArray,List.set_cons_zero,List.set_cons_succ])
     have HBK:=Lib.hid ((Below.refl (v2).heap.size (v2)).alloc (Nat.le_refl _) (.cells #[.bool false,.slice none 0 0] 57))
     have BXO2:=Lib.hid (own2_new (v2) _ rfl (.bool false) (.slice none 0 0) 57)
     obtain⟨gb,hgb⟩:∃ gb,gb=(v2).heap.size:=⟨_,rfl⟩
     have HGB:Hid (w1.heap.size≤gb):=Lib.hid (by rw [hgb];exact KW.out.size)
     have NE:Hid (gb≠gn):=Lib.hid (by have:=ROW.out.lt;omega)
     rw [←hgb] at BXO2
     (try rw [show (World.drew w1).heap.size=w1.heap.size from rfl] at hgb)
     (try rw [←hgb])
     generalize hnw:(v2).alloc (.cells #[.bool false,.slice none 0 0] 57)=v3 at *
     have ROW:=Lib.hid (ROW.out.below HBK.out (Nat.le_refl _))
     have HZ:=Lib.hid (HZ.out.mono HBK.out (Nat.le_refl _))
     have KW:=Lib.hid (KW.out.trans (HBK.out.mono KW.out.size))
     have BXO:=BXO2
     clear BXO2 hgb hnw
     clear HBK
     refine wpAnyH_ready (rs:=[4]) (by kernel_rfl) (by simp) ?_
     refine AllReadyH.cons rfl (fun Kn hKn=>?_) (AllReadyH.nil)
     ·skip
      obtain⟨bx0,bx1,bxf,bxl⟩:=BXO.out
      have bxf0:=bxf 0
      have bxf1:=bxf 1
      clear bxf
      go_simp
      refine hKn.out _ _ trivial (fun hHeld=>?_)
      clear hKn Kn
      (try simp only [Act.put,List.setIfInBounds_toArray,List.set_cons_zero,List.set_cons_succ])
      clear bx0 bx1 bxf0 bxf1 bxl
      have ROW:=Lib.hid ((ROW.out.storeFar (.bool s0) BXO.out.c0 (noInt_bool _) NE.out).storeFar (.slice a0 n0 c0) (off_set (by decide) BXO.out.c1) (noInt_slice _ _ _) NE.out)
      have HZ:=Lib.hid (HZ.out.off2 BXO.out (noInt_bool _) (noInt_slice _ _ _) (.bool s0) (.slice a0 n0 c0))
      have KW:=Lib.hid ((KW.out.setCell (p:=⟨gb,0,none⟩) HGB.out (.bool s0)).setCell (p:=⟨gb,1,none⟩) HGB.out (.slice a0 n0 c0))
      have BXO:=Lib.hid (BXO.out.anew2 (.bool s0) (.slice a0 n0 c0))
      generalize hnw:((v3.setCell ⟨gb,0,none⟩ (.bool s0)).setCell ⟨gb,1,none⟩ (.slice a0 n0 c0))=y4 at *
      clear hnw
      refine wpAnyH_take (i:=5) (v:=?_) rfl (by kernel_rfl) (by kernel_rfl) (by kernel_rfl) (fun _ _ _ h=>h) (Or.inl ⟨by rfl,?_⟩) trivial ?_
      rotate_left
      ·(intro w0 hSw;(try dsimp only at hSw);go_simp;all_goals (with_reducible rfl))
      simp only [Act.put,List.setIfInBounds_toArray,List.set_cons_zero,List.set_cons_succ]
      refine wpAnyH_done (by kernel_rfl) ?_ _
      (try simp only [List.getElem_toArray,List.getElem_cons_succ,List.getElem_cons_zero,Act.put,List.setIfInBounds_toArray,List.set_cons_zero,List.set_cons_succ])
      go_wp2
      go_meet
      case rel=>exact⟨gn,gb,rfl,rfl,Lib.hid ⟨ROW.out,⟨s0,a0,n0,c0,BXO.out,HZ.out.le (by omega)⟩,NE.out,HGB.out,HGN.out,KW.out⟩⟩
   ·skip
    go_simp
    refine hKn.out _ _ trivial (fun hHeld=>?_)
    clear hKn Kn
    (try simp only [Act.put,List.setIfInBounds_toArray,List.set_cons_zero,List.set_cons_succ])
    have HBK:=Lib.hid ((Below.refl (v1).heap.size (v1)).alloc (Nat.le_refl _) (.cells #[.bool false,.slice none 0 0] 57))
    have BXO2:=Lib.hid (own2_new (v1) _ rfl (.bool false) (.slice none 0 0) 57)
    obtain⟨gb,hgb⟩:∃ gb,gb=(v1).heap.size:=⟨_,rfl⟩
    have HGB:Hid (w1.heap.size≤gb):=Lib.hid (by rw [hgb];exact KW.out.size)
    rw [←hgb] at BXO2
    (try rw [show (World.drew w1).heap.size=w1.heap.size from rfl] at hgb)
    (try rw [←hgb])
    generalize hnw:(v1).alloc (.cells #[.bool false,.slice none 0 0] 57)=v5 at *
    have HZ:=Lib.hid (HZ.out.mono HBK.out (Nat.le_refl _))
    have KW:=Lib.hid (KW.out.trans (HBK.out.mono KW.out.size))
    have BXO:=BXO2
    clear BXO2 hgb hnw
    clear HBK
    refine wpAnyH_ready (rs:=[2,4]) (by kernel_rfl) (by simp) ?_
    refine AllReadyH.cons rfl (fun Kn hKn=>?_) (AllReadyH.cons rfl (fun Kn hKn=>?_) (AllReadyH.nil))
    ·skip
     go_simp
     refine hKn.out _ _ trivial (fun hHeld=>?_)
     clear hKn Kn
     (try simp only [Act.put,List.setIfInBounds_toArray,List.set_cons_zero,List.set_cons_succ])
     have HBK:=Lib.hid ((Below.refl (v5).heap.size (v5)).alloc (Nat.le_refl _) (.cells (madeCells zR (N*4)) 59))
     have ROW2:=Lib.hid (RowV.made (v5) N (fun _=>0) (fun _=>1000))
     obtain⟨gn,hgn⟩:∃ gn,gn=(v5).heap.size:=⟨_,rfl⟩
     have HGN:Hid (w1.heap.size≤gn):=Lib.hid (by rw [hgn];exact KW.out.size)
     have NE:Hid (gb≠gn):=Lib.hid (by have:=BXO.out.lt;omega)
     rw [←hgn] at ROW2
     (try rw [show (World.drew w1).heap.size=w1.heap.size from rfl] at hgn)
     (try rw [←hgn])
     generalize hnw:(v5).alloc (.cells (madeCells zR (N*4)) 59)=v6 at *
     have BXO:=Lib.hid (BXO.out.below HBK.out BXO.out.lt)
     have HZ:=Lib.hid (HZ.out.mono HBK.out (Nat.le_refl _))
     have KW:=Lib.hid (KW.out.trans (HBK.out.mono KW.out.size))
     have ROW:=ROW2
     clear ROW2 hgn hnw
     clear HBK
     refine wpAnyH_ready (rs:=[4]) (by kernel_rfl) (by simp) ?_
     refine AllReadyH.cons rfl (fun Kn hKn=>?_) (AllReadyH.nil)
     ·skip
      obtain⟨bx0,bx1,bxf,bxl⟩:=BXO.out
      have bxf0:=bxf 0
      have bxf1:=bxf 1
      clear bxf
      go_simp
      refine hKn.out _ _ trivial (fun hHeld=>?_)
      clear hKn Kn
      (try simp only [Act.put,List.setIfInBounds_toArray,List.set_cons_zero,List.set_cons_succ])
      clear bx0 bx1 bxf0 bxf1 bxl
      have ROW:=Lib.hid ((ROW.out.storeFar (.bool s0) BXO.out.c0 (noInt_bool _) NE.out).storeFar (.slice a0 n0 c0) (off_set (by decide) BXO.out.c1) (noInt_slice _ _ _) NE.out)
      have HZ:=Lib.hid (HZ.out.off2 BXO.out (noInt_bool _) (noInt_slice _ _ _) (.bool s0) (.slice a0 n0 c0))
      have KW:=Lib.hid ((KW.out.setCell (p:=⟨gb,0,none⟩) HGB.out (.bool s0)).setCell (p:=⟨gb,1,none⟩) HGB.out (.slice a0 n0 c0))
      have BXO:=Lib.hid (BXO.out.anew2 (.bool s0) (.slice a0 n0 c0))
      generalize hnw:((v6.setCell ⟨gb,0,none⟩ (.bool s0)).setCell ⟨gb,1,none⟩ (.slice a0 n0 c0))=y7 at *
      clear hnw
      refine wpAnyH_take (i:=5) (v:=?_) rfl (by kernel_rfl) (by kernel_rfl) (by kernel_rfl) (fun _ _ _ h=>h) (Or.inl ⟨by rfl,?_⟩) trivial ?_
      rotate_left
      ·(intro w0 hSw;(try dsimp only at hSw);go_simp;all_goals (with_reducible rfl))
      simp only [Act.put,List.setIfInBounds_toArray,List.set_cons_zero,List.set_cons_succ]
      refine wpAnyH_done (by kernel_rfl) ?_ _
      (try simp only [List.getElem_toArray,List.getElem_cons_succ,List.getElem_cons_zero,Act.put,List.setIfInBounds_toArray,List.set_cons_zero,List.set_cons_succ])
      go_wp2
      go_meet
      case rel=>exact⟨gn,gb,rfl,rfl,Lib.hid ⟨ROW.out,⟨s0,a0,n0,c0,BXO.out,HZ.out.le (by omega)⟩,NE.out,HGB.out,HGN.out,KW.out⟩⟩
    ·skip
     obtain⟨bx0,bx1,bxf,bxl⟩:=BXO.out
     have bxf0:=bxf 0
     have bxf1:=bxf 1
     clear bxf
     go_simp
     refine hKn.out _ _ trivial (fun hHeld=>?_)
     clear hKn Kn
     (try simp only [Act.put,List.setIfInBounds_toArray,List.set_cons_zero,List.set_cons_succ])
     clear bx0 bx1 bxf0 bxf1 bxl
     have HZ:=Lib.hid (HZ.out.off2 BXO.out (noInt_bool _) (noInt_slice _ _ _) (.bool s0) (.slice a0 n0 c0))
     have KW:=Lib.hid ((KW.out.setCell (p:=⟨gb,0,none⟩) HGB.out (.bool s0)).setCell (p:=⟨gb,1,none⟩) HGB.out (.slice a0 n0 c0))
     have BXO:=Lib.hid (BXO.out.anew2 (.bool s0) (.slice a0 n0 c0))
     generalize hnw:((v5.setCell ⟨gb,0,none⟩ (.bool s0)).setCell ⟨gb,1,none⟩ (.slice a0 n0 c0))=y8 at *
     clear hnw
     refine wpAnyH_ready (rs:=[2]) (by kernel_rfl) (by simp) ?_
     refine AllReadyH.cons rfl (fun Kn hKn=>?_) (AllReadyH.nil)
     ·skip
      go_simp
      refine hKn.out _ _ trivial (fun hHeld=>?_)
      clear hKn Kn
      (try simp only [Act.put,List.setIfInBounds_toArray,List.set_cons_zero,List.set_cons_succ])
      have HBK:=Lib.hid ((Below.refl (y8).heap.size (y8)).alloc (Nat.le_refl _) (.cells (madeCells zR (N*4)) 59))
      have ROW2:=Lib.hid (RowV.made (y8) N (fun _=>0) (fun _=>1000))
      obtain⟨gn,hgn⟩:∃ gn,gn=(y8).heap.size:=⟨_,rfl⟩
      have HGN:Hid (w1.heap.size≤gn):=Lib.hid (by rw [hgn];exact KW.out.size)
      have NE:Hid (gb≠gn):=Lib.hid (by have:=BXO.out.lt;omega)
      rw [←hgn] at ROW2
      (try rw [show (World.drew w1).heap.size=w1.heap.size from rfl] at hgn)
      (try rw [←hgn])
      generalize hnw:(y8).alloc (.cells (madeCells zR (N*4)) 59)=v9 at *
      have BXO:=Lib.hid (BXO.out.below HBK.out BXO.out.lt)
      have HZ:=Lib.hid (HZ.out.mono HBK.out (Nat.le_refl _))
      have KW:=Lib.hid (KW.out.trans (HBK.out.mono KW.out.size))
      have ROW:=ROW2
      clear ROW2 hgn hnw
      clear HBK
      refine wpAnyH_take (i:=5) (v:=?_) rfl (by kernel_rfl) (by kernel_rfl) (by kernel_rfl) (fun _ _ _ h=>h) (Or.inl ⟨by rfl,?_⟩) trivial ?_
      rotate_left
      ·(intro w0 hSw;(try dsimp only at hSw);go_simp;all_goals (with_reducible rfl))
      simp only [Act.put,List.setIfInBounds_toArray,List.set_cons_zero,List.set_cons_succ]
      refine wpAnyH_done (by kernel_rfl) ?_ _
      (try simp only [List.getElem_toArray,List.getElem_cons_succ,List.getElem_cons_zero,Act.put,List.setIfInBounds_toArray,List.set_cons_zero,List.set_cons_succ])
      go_wp2
      go_meet
      case rel=>exact⟨gn,gb,rfl,rfl,Lib.hid ⟨ROW.out,⟨s0,a0,n0,c0,BXO.out,HZ.out.le (by omega)⟩,NE.out,HGB.out,HGN.out,KW.out⟩⟩
  ·skip
   go_simp
   refine hKn.out _ _ trivial (fun hHeld=>?_)
   clear hKn Kn
   (try simp only [Act.put,List.setIfInBounds_toArray,List.set_cons_zero,List.set_cons_succ])
   (try rw [show (w1.alloc (.cells (madeCells zR (N*4)) 59)).drew=(w1.drew).alloc (.cells (madeCells zR (N*4)) 59) from rfl])
   have HBK:=Lib.hid ((Below.refl (w1.drew).heap.size (w1.drew)).alloc (Nat.le_refl _) (.cells (madeCells zR (N*4)) 59))
   have ROW2:=Lib.hid (RowV.made (w1.drew) N (fun _=>0) (fun _=>1000))
   obtain⟨gn,hgn⟩:∃ gn,gn=(w1.drew).heap.size:=⟨_,rfl⟩
   have HGN:Hid (w1.heap.size≤gn):=Lib.hid (by rw [hgn];exact KW.out.size)
   rw [←hgn] at ROW2
   (try rw [show (World.drew w1).heap.size=w1.heap.size from rfl] at hgn)
   (try rw [←hgn])
   generalize hnw:(w1.drew).alloc (.cells (madeCells zR (N*4)) 59)=v10 at *
   have KW:=Lib.hid (KW.out.trans (HBK.out.mono KW.out.size))
   have ROW:=ROW2
   clear ROW2 hgn hnw
   clear HBK
   refine wpAnyH_ready (rs:=[0,3]) (by kernel_rfl) (by simp) ?_
   refine AllReadyH.cons rfl (fun Kn hKn=>?_) (AllReadyH.cons rfl (fun Kn hKn=>?_) (AllReadyH.nil))
   ·skip
    go_simp
    (go_at_call 76;(with_reducible refine (zint_any 0 (by omega) (by omega) _).mono ?_);rintro e v11 ⟨z0,rfl,hz,hb⟩;obtain⟨s0,a0,n0,c0,rfl,-⟩:=hz.shape;have HZ:=Lib.hid hz;have HBK:=Lib.hid hb;clear hz hb)
    go_wp2_with fail
    refine hKn.out _ _ trivial (fun hHeld=>?_)
    clear hKn Kn
    (try simp only [Act.put,List.setIfInBounds_toArray,List.set_cons_zero,List.set_cons_succ])
    have ROW:=Lib.hid (ROW.out.below HBK.out (Nat.le_refl _))
    have KW:=Lib.hid (KW.out.trans (HBK.out.mono KW.out.size))
    clear HBK
    refine wpAnyH_ready (rs:=[3]) (by kernel_rfl) (by simp) ?_
    refine AllReadyH.cons rfl (fun Kn hKn=>?_) (AllReadyH.nil)
    ·skip
     go_simp
     refine hKn.out _ _ trivial (fun hHeld=>?_)
     clear hKn Kn
     (try simp only [Act.put,List.setIfInBounds_toArray,List.set_cons_zero,List.set_cons_succ])
     have HBK:=Lib.hid ((Below.refl (v11).heap.size (v11)).alloc (Nat.le_refl _) (.cells #[.bool false,.slice none 0 0] 57))
     have BXO2:=Lib.hid (own2_new (v11) _ rfl (.bool false) (.slice none 0 0) 57)
     obtain⟨gb,hgb⟩:∃ gb,gb=(v11).heap.size:=⟨_,rfl⟩
     have HGB:Hid (w1.heap.size≤gb):=Lib.hid (by rw [hgb];exact KW.out.size)
     have NE:Hid (gb≠gn):=Lib.hid (by have:=ROW.out.lt;omega)
     rw [←hgb] at BXO2
     (try rw [show (World.drew w1).heap.size=w1.heap.size from rfl] at hgb)
     (try rw [←hgb])
     generalize hnw:(v11).alloc (.cells #[.bool false,.slice none 0 0] 57)=v12 at *
     have ROW:=Lib.hid (ROW.out.below HBK.out (Nat.le_refl _))
     have HZ:=Lib.hid (HZ.out.mono HBK.out (Nat.le_refl _))
     have KW:=Lib.hid (KW.out.trans (HBK.out.mono KW.out.size))
     have BXO:=BXO2
     clear BXO2 hgb hnw
     clear HBK
     refine wpAnyH_ready (rs:=[4]) (by kernel_rfl) (by simp) ?_
     refine AllReadyH.cons rfl (fun Kn hKn=>?_) (AllReadyH.nil)
     ·skip
      obtain⟨bx0,bx1,bxf,bxl⟩:=BXO.out
      have bxf0:=bxf 0
      have bxf1:=bxf 1
      clear bxf
      go_simp
      refine hKn.out _ _ trivial (fun hHeld=>?_)
      clear hKn Kn
      (try simp only [Act.put,List.setIfInBounds_toArray,List.set_cons_zero,List.set_cons_succ])
      clear bx0 bx1 bxf0 bxf1 bxl
      have ROW:=Lib.hid ((ROW.out.storeFar (.bool s0) BXO.out.c0 (noInt_bool _) NE.out).storeFar (.slice a0 n0 c0) (off_set (by decide) BXO.out.c1) (noInt_slice _ _ _) NE.out)
      have HZ:=Lib.hid (HZ.out.off2 BXO.out (noInt_bool _) (noInt_slice _ _ _) (.bool s0) (.slice a0 n0 c0))
      have KW:=Lib.hid ((KW.out.setCell (p:=⟨gb,0,none⟩) HGB.out (.bool s0)).setCell (p:=⟨gb,1,none⟩) HGB.out (.slice a0 n0 c0))
      have BXO:=Lib.hid (BXO.out.anew2 (.bool s0) (.slice a0 n0 c0))
      generalize hnw:((v12.setCell ⟨gb,0,none⟩ (.bool s0)).setCell ⟨gb,1,none⟩ (.slice a0 n0 c0))=y13 at *
      clear hnw
      refine wpAnyH_take (i:=5) (v:=?_) rfl (by kernel_rfl) (by kernel_rfl) (by kernel_rfl) (fun _ _ _ h=>h) (Or.inl ⟨by rfl,?_⟩) trivial ?_
      rotate_left
      ·(intro w0 hSw;(try dsimp only at hSw);go_simp;all_goals (with_reducible rfl))
      simp only [Act.put,List.setIfInBounds_toArray,List.set_cons_zero,List.set_cons_succ]
      refine wpAnyH_done (by kernel_rfl) ?_ _
      (try simp only [List.getElem_toArray,List.getElem_cons_succ,List.getElem_cons_zero,Act.put,List.setIfInBounds_toArray,List.set_cons_zero,List.set_cons_succ])
      go_wp2
      go_meet
      case rel=>exact⟨gn,gb,rfl,rfl,Lib.hid ⟨ROW.out,⟨s0,a0,n0,c0,BXO.out,HZ.out.le (by omega)⟩,NE.out,HGB.out,HGN.out,KW.out⟩⟩
   ·skip
    go_simp
    refine hKn.out _ _ trivial (fun hHeld=>?_)
    clear hKn Kn
    (try simp only [Act.put,List.setIfInBounds_toArray,List.set_cons_zero,List.set_cons_succ])
    have HBK:=Lib.hid ((Below.refl (v10).heap.size (v10)).alloc (Nat.le_refl _) (.cells #[.bool false,.slice none 0 0] 57))
    have BXO2:=Lib.hid (own2_new (v10) _ rfl (.bool false) (.slice none 0 0) 57)
    obtain⟨gb,hgb⟩:∃ gb,gb=(v10).heap.size:=⟨_,rfl⟩
    have HGB:Hid (w1.heap.size≤gb):=Lib.hid (by rw [hgb];exact KW.out.size)
    have NE:Hid (gb≠gn):=Lib.hid (by have:=ROW.out.lt;omega)
    rw [←hgb] at BXO2
    (try rw [show (World.drew w1).heap.size=w1.heap.size from rfl] at hgb)
    (try rw [←hgb])
    generalize hnw:(v10).alloc (.cells #[.bool false,.slice none 0 0] 57)=v14 at *
    have ROW:=Lib.hid (ROW.out.below HBK.out (Nat.le_refl _))
    have KW:=Lib.hid (KW.out.trans (HBK.out.mono KW.out.size))
    have BXO:=BXO2
    clear BXO2 hgb hnw
    clear HBK
    refine wpAnyH_ready (rs:=[0]) (by kernel_rfl) (by simp) ?_
    refine AllReadyH.cons rfl (fun Kn hKn=>?_) (AllReadyH.nil)
    ·skip
     go_simp
     (go_at_call 76;(with_reducible refine (zint_any 0 (by omega) (by omega) _).mono ?_);rintro e v15 ⟨z0,rfl,hz,hb⟩;obtain⟨s0,a0,n0,c0,rfl,-⟩:=hz.shape;have HZ:=Lib.hid hz;have HBK:=Lib.hid hb;clear hz hb)
     go_wp2_with fail
     refine hKn.out _ _ trivial (fun hHeld=>?_)
     clear hKn Kn
     (try simp only [Act.put,List.setIfInBounds_toArray,List.set_cons_zero,List.set_cons_succ])
     have ROW:=Lib.hid (ROW.out.below HBK.out (Nat.le_refl _))
     have BXO:=Lib.hid (BXO.out.below HBK.out BXO.out.lt)
     have KW:=Lib.hid (KW.out.trans (HBK.out.mono KW.out.size))
     clear HBK
     refine wpAnyH_ready (rs:=[4]) (by kernel_rfl) (by simp) ?_
     refine AllReadyH.cons rfl (fun Kn hKn=>?_) (AllReadyH.nil)
     ·skip
      obtain⟨bx0,bx1,bxf,bxl⟩:=BXO.out
      have bxf0:=bxf 0
      have bxf1:=bxf 1
      clear bxf
      go_simp
      refine hKn.out _ _ trivial (fun hHeld=>?_)
      clear hKn Kn
      (try simp only [Act.put,List.setIfInBounds_toArray,List.set_cons_zero,List.set_cons_succ])
      clear bx0 bx1 bxf0 bxf1 bxl
      have ROW:=Lib.hid ((ROW.out.storeFar (.bool s0) BXO.out.c0 (noInt_bool _) NE.out).storeFar (.slice a0 n0 c0) (off_set (by decide) BXO.out.c1) (noInt_slice _ _ _) NE.out)
      have HZ:=Lib.hid (HZ.out.off2 BXO.out (noInt_bool _) (noInt_slice _ _ _) (.bool s0) (.slice a0 n0 c0))
      have KW:=Lib.hid ((KW.out.setCell (p:=⟨gb,0,none⟩) HGB.out (.bool s0)).setCell (p:=⟨gb,1,none⟩) HGB.out (.slice a0 n0 c0))
      have BXO:=Lib.hid (BXO.out.anew2 (.bool s0) (.slice a0 n0 c0))
      generalize hnw:((v15.setCell ⟨gb,0,none⟩ (.bool s0)).setCell ⟨gb,1,none⟩ (.slice a0 n0 c0))=y16 at *
      clear hnw
      refine wpAnyH_take (i:=5) (v:=?_) rfl (by kernel_rfl) (by kernel_rfl) (by kernel_rfl) (fun _ _ _ h=>h) (Or.inl ⟨by rfl,?_⟩) trivial ?_
      rotate_left
      ·(intro w0 hSw;(try dsimp only at hSw);go_simp;all_goals (with_reducible rfl))
      simp only [Act.put,List.setIfInBounds_toArray,List.set_cons_zero,List.set_cons_succ]
      refine wpAnyH_done (by kernel_rfl) ?_ _
      (try simp only [List.getElem_toArray,List.getElem_cons_succ,List.getElem_cons_zero,Act.put,List.setIfInBounds_toArray,List.set_cons_zero,List.set_cons_succ])
      go_wp2
      go_meet
      case rel=>exact⟨gn,gb,rfl,rfl,Lib.hid ⟨ROW.out,⟨s0,a0,n0,c0,BXO.out,HZ.out.le (by omega)⟩,NE.out,HGB.out,HGN.out,KW.out⟩⟩
  ·skip
   go_simp
   refine hKn.out _ _ trivial (fun hHeld=>?_)
   clear hKn Kn
   (try simp only [Act.put,List.setIfInBounds_toArray,List.set_cons_zero,List.set_cons_succ])
   (try rw [show (w1.alloc (.cells #[.bool false,.slice none 0 0] 57)).drew=(w1.drew).alloc (.cells #[.bool false,.slice none 0 0] 57) from rfl])
   have HBK:=Lib.hid ((Below.refl (w1.drew).heap.size (w1.drew)).alloc (Nat.le_refl _) (.cells #[.bool false,.slice none 0 0] 57))
   have BXO2:=Lib.hid (own2_new (w1.drew) _ rfl (.bool false) (.slice none 0 0) 57)
   obtain⟨gb,hgb⟩:∃ gb,gb=(w1.drew).heap.size:=⟨_,rfl⟩
   have HGB:Hid (w1.heap.size≤gb):=Lib.hid (by rw [hgb];exact KW.out.size)
   rw [←hgb] at BXO2
   (try rw [show (World.drew w1).heap.size=w1.heap.size from rfl] at hgb)
   (try rw [←hgb])
   generalize hnw:(w1.drew).alloc (.cells #[.bool false,.slice none 0 0] 57)=v17 at *
   have KW:=Lib.hid (KW.out.trans (HBK.out.mono KW.out.size))
   have BXO:=BXO2
   clear BXO2 hgb hnw
   clear HBK
   refine wpAnyH_ready (rs:=[0,2]) (by kernel_rfl) (by simp) ?_
   refine AllReadyH.cons rfl (fun Kn hKn=>?_) (AllReadyH.cons rfl (fun Kn hKn=>?_) (AllReadyH.nil))
   ·skip
    go_simp
    (go_at_call 76;(with_reducible refine (zint_any 0 (by omega) (by omega) _).mono ?_);rintro e v18 ⟨z0,rfl,hz,hb⟩;obtain⟨s0,a0,n0,c0,rfl,-⟩:=hz.shape;have HZ:=Lib.hid hz;have HBK:=Lib.hid hb;clear hz hb)
    go_wp2_with fail
    refine hKn.out _ _ trivial (fun hHeld=>?_)
    clear hKn Kn
    (try simp only [Act.put,List.setIfInBounds_toArray,List.set_cons_zero,List.set_cons_succ])
    have BXO:=Lib.hid (BXO.out.below HBK.out BXO.out.lt)
    have KW:=Lib.hid (KW.out.trans (HBK.out.mono KW.out.size))
    clear HBK
    refine wpAnyH_ready (rs:=[2,4]) (by kernel_rfl) (by simp) ?_
    refine AllReadyH.cons rfl (fun Kn hKn=>?_) (AllReadyH.cons rfl (fun Kn hKn=>?_) (AllReadyH.nil))
    ·skip
     go_simp
     refine hKn.out _ _ trivial (fun hHeld=>?_)
     clear hKn Kn
     (try simp only [Act.put,List.setIfInBounds_toArray,List.set_cons_zero,List.set_cons_succ])
     have HBK:=Lib.hid ((Below.refl (v18).heap.size (v18)).alloc (Nat.le_refl _) (.cells (madeCells zR (N*4)) 59))
     have ROW2:=Lib.hid (RowV.made (v18) N (fun _=>0) (fun _=>1000))
     obtain⟨gn,hgn⟩:∃ gn,gn=(v18).heap.size:=⟨_,rfl⟩
     have HGN:Hid (w1.heap.size≤gn):=Lib.hid (by rw [hgn];exact KW.out.size)
     have NE:Hid (gb≠gn):=Lib.hid (by have:=BXO.out.lt;omega)
     rw [←hgn] at ROW2
     (try rw [show (World.drew w1).heap.size=w1.heap.size from rfl] at hgn)
     (try rw [←hgn])
     generalize hnw:(v18).alloc (.cells (madeCells zR (N*4)) 59)=v19 at *
     have BXO:=Lib.hid (BXO.out.below HBK.out BXO.out.lt)
     have HZ:=Lib.hid (HZ.out.mono HBK.out (Nat.le_refl _))
     have KW:=Lib.hid (KW.out.trans (HBK.out.mono KW.out.size))
     have ROW:=ROW2
     clear ROW2 hgn hnw
     clear HBK
     refine wpAnyH_ready (rs:=[4]) (by kernel_rfl) (by simp) ?_
     refine AllReadyH.cons rfl (fun Kn hKn=>?_) (AllReadyH.nil)
     ·skip
      obtain⟨bx0,bx1,bxf,bxl⟩:=BXO.out
      have bxf0:=bxf 0
      have bxf1:=bxf 1
      clear bxf
      go_simp
      refine hKn.out _ _ trivial (fun hHeld=>?_)
      clear hKn Kn
      (try simp only [Act.put,List.setIfInBounds_toArray,List.set_cons_zero,List.set_cons_succ])
      clear bx0 bx1 bxf0 bxf1 bxl
      have ROW:=Lib.hid ((ROW.out.storeFar (.bool s0) BXO.out.c0 (noInt_bool _) NE.out).storeFar (.slice a0 n0 c0) (off_set (by decide) BXO.out.c1) (noInt_slice _ _ _) NE.out)
      have HZ:=Lib.hid (HZ.out.off2 BXO.out (noInt_bool _) (noInt_slice _ _ _) (.bool s0) (.slice a0 n0 c0))
      have KW:=Lib.hid ((KW.out.setCell (p:=⟨gb,0,none⟩) HGB.out (.bool s0)).setCell (p:=⟨gb,1,none⟩) HGB.out (.slice a0 n0 c0))
      have BXO:=Lib.hid (BXO.out.anew2 (.bool s0) (.slice a0 n0 c0))
      generalize hnw:((v19.setCell ⟨gb,0,none⟩ (.bool s0)).setCell ⟨gb,1,none⟩ (.slice a0 n0 c0))=y20 at *
      clear hnw
      refine wpAnyH_take (i:=5) (v:=?_) rfl (by kernel_rfl) (by kernel_rfl) (by kernel_rfl) (fun _ _ _ h=>h) (Or.inl ⟨by rfl,?_⟩) trivial ?_
      rotate_left
      ·(intro w0 hSw;(try dsimp only at hSw);go_simp;all_goals (with_reducible rfl))
      simp only [Act.put,List.setIfInBounds_toArray,List.set_cons_zero,List.set_cons_succ]
      refine wpAnyH_done (by kernel_rfl) ?_ _
      (try simp only [List.getElem_toArray,List.getElem_cons_succ,List.getElem_cons_zero,Act.put,List.setIfInBounds_toArray,List.set_cons_zero,List.set_cons_succ])
      go_wp2
      go_meet
      case rel=>exact⟨gn,gb,rfl,rfl,Lib.hid ⟨ROW.out,⟨s0,a0,n0,c0,BXO.out,HZ.out.le (by omega)⟩,NE.out,HGB.out,HGN.out,KW.out⟩⟩
    ·skip
     obtain⟨bx0,bx1,bxf,bxl⟩:=BXO.out
     have bxf0:=bxf 0
     have bxf1:=bxf 1
     clear bxf
     go_simp
     refine hKn.out _ _ trivial (fun hHeld=>?_)
     clear hKn Kn
     (try simp only [Act.put,List.setIfInBounds_toArray,List.set_cons_zero,List.set_cons_succ])
     clear bx0 bx1 bxf0 bxf1 bxl
     have HZ:=Lib.hid (HZ.out.off2 BXO.out (noInt_bool _) (noInt_slice _ _ _) (.bool s0) (.slice a0 n0 c0))
     have KW:=Lib.hid ((KW.out.setCell (p:=⟨gb,0,none⟩) HGB.out (.bool s0)).setCell (p:=⟨gb,1,none⟩) HGB.out (.slice a0 n0 c0))
     have BXO:=Lib.hid (BXO.out.anew2 (.bool s0) (.slice a0 n0 c0))
     generalize hnw:((v18.setCell ⟨gb,0,none⟩ (.bool s0)).setCell ⟨gb,1,none⟩ (.slice a0 n0 c0))=y21 at *
     clear hnw
     refine wpAnyH_ready (rs:=[2]) (by kernel_rfl) (by simp) ?_
     refine AllReadyH.cons rfl (fun Kn hKn=>?_) (AllReadyH.nil)
     ·skip
      go_simp
      refine hKn.out _ _ trivial (fun hHeld=>?_)
      clear hKn Kn
      (try simp only [Act.put,List.setIfInBounds_toArray,List.set_cons_zero,List.set_cons_succ])
      have HBK:=Lib.hid ((Below.refl (y21).heap.size (y21)).alloc (Nat.le_refl _) (.cells (madeCells zR (N*4)) 59))
      have ROW2:=Lib.hid (RowV.made (y21) N (fun _=>0) (fun _=>1000))
      obtain⟨gn,hgn⟩:∃ gn,gn=(y21).heap.size:=⟨_,rfl⟩
      have HGN:Hid (w1.heap.size≤gn):=Lib.hid (by rw [hgn];exact KW.out.size)
      have NE:Hid (gb≠gn):=Lib.hid (by have:=BXO.out.lt;omega)
      rw [←hgn] at ROW2
      (try rw [show (World.drew w1).heap.size=w1.heap.size from rfl] at hgn)
      (try rw [←hgn])
      generalize hnw:(y21).alloc (.cells (madeCells zR (N*4)) 59)=v22 at *
      have BXO:=Lib.hid (BXO.out.below HBK.out BXO.out.lt)
      have HZ:=Lib.hid (HZ.out.mono HBK.out (Nat.le_refl _))
      have KW:=Lib.hid (KW.out.trans (HBK.out.mono KW.out.size))
      have ROW:=ROW2
      clear ROW2 hgn hnw
      clear HBK
      refine wpAnyH_take (i:=5) (v:=?_) rfl (by kernel_rfl) (by kernel_rfl) (by kernel_rfl) (fun _ _ _ h=>h) (Or.inl ⟨by rfl,?_⟩) trivial ?_
      rotate_left
      ·(intro w0 hSw;(try dsimp only at hSw);go_simp;all_goals (with_reducible rfl))
      simp only [Act.put,List.setIfInBounds_toArray,List.set_cons_zero,List.set_cons_succ]
      refine wpAnyH_done (by kernel_rfl) ?_ _
      (try simp only [List.getElem_toArray,List.getElem_cons_succ,List.getElem_cons_zero,Act.put,List.setIfInBounds_toArray,List.set_cons_zero,List.set_cons_succ])
      go_wp2
      go_meet
      case rel=>exact⟨gn,gb,rfl,rfl,Lib.hid ⟨ROW.out,⟨s0,a0,n0,c0,BXO.out,HZ.out.le (by omega)⟩,NE.out,HGB.out,HGN.out,KW.out⟩⟩
   ·skip
    go_simp
    refine hKn.out _ _ trivial (fun hHeld=>?_)
    clear hKn Kn
    (try simp only [Act.put,List.setIfInBounds_toArray,List.set_cons_zero,List.set_cons_succ])
    have HBK:=Lib.hid ((Below.refl (v17).heap.size (v17)).alloc (Nat.le_refl _) (.cells (madeCells zR (N*4)) 59))
    have ROW2:=Lib.hid (RowV.made (v17) N (fun _=>0) (fun _=>1000))
    obtain⟨gn,hgn⟩:∃ gn,gn=(v17).heap.size:=⟨_,rfl⟩
    have HGN:Hid (w1.heap.size≤gn):=Lib.hid (by rw [hgn];exact KW.out.size)
    have NE:Hid (gb≠gn):=Lib.hid (by have:=BXO.out.lt;omega)
    rw [←hgn] at ROW2
    (try rw [show (World.drew w1).heap.size=w1.heap.size from rfl] at hgn)
    (try rw [←hgn])
    generalize hnw:(v17).alloc (.cells (madeCells zR (N*4)) 59)=v23 at *
    have BXO:=Lib.hid (BXO.out.below HBK.out BXO.out.lt)
    have KW:=Lib.hid (KW.out.trans (HBK.out.mono KW.out.size))
    have ROW:=ROW2
    clear ROW2 hgn hnw
    clear HBK
    refine wpAnyH_ready (rs:=[0]) (by kernel_rfl) (by simp) ?_
    refine AllReadyH.cons rfl (fun Kn hKn=>?_) (AllReadyH.nil)
    ·skip
     go_simp
     (go_at_call 76;(with_reducible refine (zint_any 0 (by omega) (by omega) _).mono ?_);rintro e v24 ⟨z0,rfl,hz,hb⟩;obtain⟨s0,a0,n0,c0,rfl,-⟩:=hz.shape;have HZ:=Lib.hid hz;have HBK:=Lib.hid hb;clear hz hb)
     go_wp2_with fail
     refine hKn.out _ _ trivial (fun hHeld=>?_)
     clear hKn Kn
     (try simp only [Act.put,List.setIfInBounds_toArray,List.set_cons_zero,List.set_cons_succ])
     have ROW:=Lib.hid (ROW.out.below HBK.out (Nat.le_refl _))
     have BXO:=Lib.hid (BXO.out.below HBK.out BXO.out.lt)
     have KW:=Lib.hid (KW.out.trans (HBK.out.mono KW.out.size))
     clear HBK
     refine wpAnyH_ready (rs:=[4]) (by kernel_rfl) (by simp) ?_
     refine AllReadyH.cons rfl (fun Kn hKn=>?_) (AllReadyH.nil)
     ·skip
      obtain⟨bx0,bx1,bxf,bxl⟩:=BXO.out
      have bxf0:=bxf 0
      have bxf1:=bxf 1
      clear bxf
      go_simp
      refine hKn.out _ _ trivial (fun hHeld=>?_)
      clear hKn Kn
      (try simp only [Act.put,List.setIfInBounds_toArray,List.set_cons_zero,List.set_cons_succ])
      clear bx0 bx1 bxf0 bxf1 bxl
      have ROW:=Lib.hid ((ROW.out.storeFar (.bool s0) BXO.out.c0 (noInt_bool _) NE.out).storeFar (.slice a0 n0 c0) (off_set (by decide) BXO.out.c1) (noInt_slice _ _ _) NE.out)
      have HZ:=Lib.hid (HZ.out.off2 BXO.out (noInt_bool _) (noInt_slice _ _ _) (.bool s0) (.slice a0 n0 c0))
      have KW:=Lib.hid ((KW.out.setCell (p:=⟨gb,0,none⟩) HGB.out (.bool s0)).setCell (p:=⟨gb,1,none⟩) HGB.out (.slice a0 n0 c0))
      have BXO:=Lib.hid (BXO.out.anew2 (.bool s0) (.slice a0 n0 c0))
      generalize hnw:((v24.setCell ⟨gb,0,none⟩ (.bool s0)).setCell ⟨gb,1,none⟩ (.slice a0 n0 c0))=y25 at *
      clear hnw
      refine wpAnyH_take (i:=5) (v:=?_) rfl (by kernel_rfl) (by kernel_rfl) (by kernel_rfl) (fun _ _ _ h=>h) (Or.inl ⟨by rfl,?_⟩) trivial ?_
      rotate_left
      ·(intro w0 hSw;(try dsimp only at hSw);go_simp;all_goals (with_reducible rfl))
      simp only [Act.put,List.setIfInBounds_toArray,List.set_cons_zero,List.set_cons_succ]
      refine wpAnyH_done (by kernel_rfl) ?_ _
      (try simp only [List.getElem_toArray,List.getElem_cons_succ,List.getElem_cons_zero,Act.put,List.setIfInBounds_toArray,List.set_cons_zero,List.set_cons_succ])
      go_wp2
      go_meet
      case rel=>exact⟨gn,gb,rfl,rfl,Lib.hid ⟨ROW.out,⟨s0,a0,n0,c0,BXO.out,HZ.out.le (by omega)⟩,NE.out,HGB.out,HGN.out,KW.out⟩⟩
 case rest=>
  obtain⟨gn,gb,rfl,rfl,FM⟩:=hcut
  have HLT6:=Lib.hid O6.out.lt
  clear hmk
  go_wp2
  go_loopw [10] (fun v10 wr=>∃ k:Nat,k≤N∧v10 = .int .i64 (k:Nat)∧Hid (FloM w1 wr gn gb N (fun j=>j<k) (fun _=>0) 1000 0)) (fun v10 _=>N - (intOf v10).toNat)
  case atStart=>exact⟨0,by omega,rfl,Lib.hid (FM.out.congr (fun j hj p=>by omega))⟩
  case round=>
   clear FM
   obtain⟨k,hk,rfl,FM⟩:=hrel
   by_cases h:k<N
   ·have e1:decide ((k:Int)<(N:Int))=true:=by simpa using h
    have e1n:decide (k<N)=true:=by simpa using h
    have ix:=fun X=>ixQq gn N N k h X
    obtain⟨s',a',m',c',t',b',n',d',hr,_⟩:=FM.out.row.cell k h
    obtain⟨y0,y1,y2,y3,yl⟩:=hr
    have yf:=FM.out.row.f
    have yf0:=yf (k*4)
    have yf1:=yf (k*4+1)
    have yf2:=yf (k*4+2)
    have yf3:=yf (k*4+3)
    clear yf
    go_wp2_with (go_at_call 36;go_loud ((with_reducible refine (qv_whole 0 _ (by omega) (by omega)).mono ?_);rintro e w3 ⟨zr,rfl,hz,hb⟩;obtain⟨s3,a3,n3,c3,t3,a4,n4,c4,rfl,hz2⟩:=hz.shape;have FM:=Lib.hid (FM.out.below hb);clear y0 y1 y2 y3 yl yf0 yf1 yf2 yf3;obtain⟨s',a',m',c',t',b',n',d',hr,_⟩:=FM.out.row.cell k h;obtain⟨y0,y1,y2,y3,yl⟩:=hr;have yf:=FM.out.row.f;have yf0:=yf (k*4);have yf1:=yf (k*4+1);have yf2:=yf (k*4+2);have yf3:=yf (k*4+3);clear yf hz hb))
    go_roundw
    case rel=>exact⟨k+1,by omega,by go_num,Lib.hid ((FM.out.put h hz2.out (by omega)).congr (fun j hj p=>by
     refine⟨by by_cases q:j=k;exact .inl q;exact .inr (by omega),?_,Nat.le_refl _⟩
     unfold updQ
     split <;> rfl))⟩
    case measure=>simp [intOf];omega
   ·obtain rfl:k=N:=by omega
    have e1:decide ((k:Int)<(k:Int))=false:=by simp
    have FM:=Lib.hid (FM.out.congr (P':=fun _=>True) (f':=fun i=>netK W z i 0) (K':=kB 0) (fun j hj p=>⟨hj,by unfold netK;simp [sumQ],Nat.le_refl _⟩))
    generalize wr=wv at *
    clear wr h hk
    go_wp2
    go_loopw [11,12] (fun v11 v12 wr=>∃ i:Nat,i≤W.length∧v11 = .int .i64 (i:Nat)∧Hid (FloM w1 wr gn gb k (fun _=>True) (fun j=>netK W z j i) (kB i) ((gC (fun j=>(c j).natAbs) i:Nat):Int))) (fun v11 _ _=>W.length - (intOf v11).toNat)
    case atStart=>exact⟨0,by omega,rfl,FM⟩
    case round=>
     clear FM
     obtain⟨i,hi,rfl,FM⟩:=hrel
     by_cases h3:i<W.length
     ·have e3:decide ((i:Int)<((W.length:Nat):Int))=true:=by simpa using h3
      have e3n:decide (i<W.length)=true:=by simpa using h3
      have ixs:=ixN HUS.out i uc h3
      have cs:=(HUS.out.mono (KB.out.trans (FM.out.kb.mono KB.out.size)) (Nat.le_refl _)).cell i h3
      have HTQ:=Lib.hid (HQ.out.txt i h3)
      have HZI:=Lib.hid (HF.out.zc i h3)
      have HDN:Hid ((z i).den=1):=Lib.hid (by rw [HZI.out,Rat.den_intCast])
      obtain⟨va2,vk2,hve,hp2⟩:=HV.out.ex
      injection hve with u1 u2 u3
      subst u1
      subst u3
      clear u2
      obtain⟨g0,rfl,hpr,hg0⟩:=hp2 (by omega)
      have HPR:=Lib.hid hpr
      have HG0:=Lib.hid hg0
      have HKS:Hid (∀ wx,Below w1.heap.size w1 wx→wx.cell? ⟨ub,uo+i,none⟩=some (.string (ss i))):=Lib.hid (fun wx hb=>(HUS.out.mono (KB.out.trans (hb.mono KB.out.size)) (Nat.le_refl _)).cell i h3)
      clear hp2 hpr hg0
      go_upto_region 14 with (first
       | (go_at_call 77;go_loud ((with_reducible refine (rinteger_any (ss i) (z i) _ HTQ.out HDN.out).mono ?_);rintro e w3 ⟨rfl,hb⟩;have FM:=Lib.hid (FM.out.below hb);clear hb;have cs:=HKS.out _ FM.out.kb))
       | (go_at_call 78;go_loud ((with_reducible refine (of_any (ss i) (z i) _ HTQ.out).mono ?_);rintro e w4 ⟨s1,a1,n1,c1,t1,b1,l1,k1,rfl,hq,hb⟩;have HQV:=Lib.hid hq.out;have FM:=Lib.hid (FM.out.below hb.out);clear hb hq;have cs:=HKS.out _ FM.out.kb)))
      have AL:=Lib.hid (boxes1 w4 (.cells #[.bool s1,.slice a1 n1 c1,.bool t1,.slice b1 l1 k1] 59))
      have OC:=Lib.hid (own4_of w4 (.bool s1) (.slice a1 n1 c1) (.bool t1) (.slice b1 l1 k1) 59)
      have FM0:=FM
      have FM:=Lib.hid (FM.out.below AL.out)
      have HQV:=Lib.hid (HQV.out.mono AL.out (Nat.le_refl _))
      obtain⟨cb,hcb⟩:∃ cb,cb=w4.heap.size:=⟨_,rfl⟩
      have HCN:Hid (cb≠gn∧cb≠gb):=Lib.hid (by
       have:=FM0.out.row.lt
       obtain⟨_,_,_,_,o2,_⟩:=FM0.out.box
       have:=o2.lt
       exact⟨by omega,by omega⟩)
      rw [←hcb] at OC ⊢
      generalize w4.alloc (.cells #[.bool s1,.slice a1 n1 c1,.bool t1,.slice b1 l1 k1] 59)=w5 at *
      clear hcb AL cs ixs FM0
      obtain⟨s8,a8,n8,c8,ob,zb⟩:=FM.out.box
      have OB:=Lib.hid ob
      have ZB:=Lib.hid zb
      have HN1:Hid (ZIs w5 (.agg #[.bool s1,.slice a1 n1 c1]) (z i).num 1000):=Lib.hid (by
       obtain⟨x1,y1,x2,y2,h0,g1,g2,g3⟩:=HQV.out
       injection h0 with h0
       simp only [Array.mk.injEq,List.cons.injEq,and_true] at h0
       obtain⟨e1,e2,e3,e4⟩:=h0
       subst e2 e4
       injection e1 with e1
       injection e3 with e3
       subst e1 e3
       exact g1)
      have HGI:Hid (((Int.gcd ((gC (fun j=>(c j).natAbs) i:Nat):Int) (((z i).num.natAbs:Nat):Int):Nat):Int)=((gC (fun j=>(c j).natAbs) (i+1):Nat):Int)):=Lib.hid (by
       rw [HZI.out,Rat.num_intCast,gC_int])
      clear ob zb
      have HKR:Hid (∀ w',Below w5.heap.size w5 w'→w'.cell? ⟨gb,0,none⟩=some (.bool s8)∧w'.cell? ⟨gb,1,none⟩=some (.slice a8 n8 c8)∧w'.cell? ⟨cb,0,none⟩=some (.bool s1)∧w'.cell? ⟨cb,1,none⟩=some (.slice a1 n1 c1)):=Lib.hid (fun w' hb=>⟨(OB.out.below hb OB.out.lt).c0,(OB.out.below hb OB.out.lt).c1,(OC.out.below hb OC.out.lt).c0,(OC.out.below hb OC.out.lt).c1⟩)
      have K5:=Lib.hid ((Below.refl w5.heap.size w5).drew)
      refine wp_region_last (S:=fun w'=>w'.cell? ⟨gb,0,none⟩=some (.bool s8)∧w'.cell? ⟨gb,1,none⟩=some (.slice a8 n8 c8)∧w'.cell? ⟨cb,0,none⟩=some (.bool s1)∧w'.cell? ⟨cb,1,none⟩=some (.slice a1 n1 c1)) (by kernel_rfl) (by kernel_rfl) (HKR.out _ K5.out) (fun hHeld=>?_)
      simp only [List.pop_toArray,List.dropLast_cons_cons,List.dropLast_singleton]
      refine wtk_begin [0,1,2] ?_
      iterate 3 (refine wtk (v:=?_) rfl (by kernel_rfl) (fun _ _ _ h=>h) (by kernel_rfl) ?_ (by assumption) ?_;rotate_left;(focus intro w0 hSw;(try dsimp only at hSw);go_simp;all_goals (with_reducible rfl));simp only [Act.put,List.setIfInBounds_toArray,List.set_cons_zero,List.set_cons_succ])
      refine wtk_end ?_
      refine wpAnyH_ready (rs:=[3]) (by kernel_rfl) (by simp) ?_
      refine AllReadyH.cons rfl (fun Kn hKn=>?_) AllReadyH.nil
      go_simp
      (go_at_call 80;(with_reducible refine (zabs_any _ (z i).num 1000 _ (HN1.out.mono K5.out (Nat.le_refl _))).mono ?_);rintro e w6 ⟨r1,rfl,hz,hb⟩;have HA1:=Lib.hid hz;have K5:=Lib.hid (K5.out.trans (hb.mono K5.out.size));clear hz hb)
      go_wp2_with fail
      refine hKn.out _ _ ?_ (fun hHeld=>?_)
      ·(try dsimp only);exact HKR.out _ K5.out
      clear hKn Kn
      (try simp only [Act.put,List.setIfInBounds_toArray,List.set_cons_zero,List.set_cons_succ])
      refine wpAnyH_ready (rs:=[4]) (by kernel_rfl) (by simp) ?_
      refine AllReadyH.cons rfl (fun Kn hKn=>?_) AllReadyH.nil
      go_simp
      (go_at_call 79;(with_reducible refine (zgcd_any _ _ ((gC (fun j=>(c j).natAbs) i:Nat):Int) (((z i).num.natAbs:Nat):Int) 1000 _ (ZB.out.mono K5.out (Nat.le_refl _)) HA1.out (by omega)).mono ?_);rintro e w7 ⟨r2,rfl,hz,hb⟩;rw [HGI.out] at hz;obtain⟨s9,a9,n9,c9,rfl,-⟩:=hz.shape;have HG2:=Lib.hid hz;have K5:=Lib.hid (K5.out.trans (hb.mono K5.out.size));have OB7:=Lib.hid (OB.out.below K5.out OB.out.lt);obtain⟨q0,q1,qf,ql⟩:=OB7.out;have qf0:=qf 0;have qf1:=qf 1;clear hz hb qf)
      go_wp2_with fail
      refine hKn.out _ _ ?_ (fun hHeld=>?_)
      ·(try dsimp only);exact HKR.out _ K5.out
      clear hKn Kn
      (try simp only [Act.put,List.setIfInBounds_toArray,List.set_cons_zero,List.set_cons_succ])
      refine wpAnyH_done (by kernel_rfl) ?_ _
      refine lastQ_step rfl (fun Kn hKn=>?_)
      go_simp
      refine hKn.out _ _ ?_
      clear hKn Kn
      (try simp only [Act.put,List.setIfInBounds_toArray,List.set_cons_zero,List.set_cons_succ])
      have FM:=Lib.hid ((FM.out.below K5.out).setG HG2.out)
      have OC:=Lib.hid ((OC.out.below K5.out OC.out.lt).setCell gb 0 (.bool s9) (fun e=>HCN.out.2 e.symm))
      have OC:=Lib.hid (OC.out.setCell gb 1 (.slice a9 n9 c9) (fun e=>HCN.out.2 e.symm))
      have HQC:=Lib.hid ((QV.of HQV.out).mono K5.out (Nat.le_refl _))
      have HQC:=Lib.hid ((HQC.out.store1 (.bool s9) OB7.out.c0 (noInt_bool _)).store1 (.slice a9 n9 c9) (off_set (by decide) OB7.out.c1) (noInt_slice _ _ _))
      generalize ((w7.setCell ⟨gb,0,none⟩ (.bool s9)).setCell ⟨gb,1,none⟩ (.slice a9 n9 c9))=w8 at *
      clear q0 q1 qf0 qf1 ql HG2 HA1 HN1 HGI OB7 OB ZB HKR K5 HQV
      obtain⟨ea,la⟩:=HOK.out.a h3
      obtain⟨eb,lb⟩:=HOK.out.b h3
      have hab:=HNE.out i h3
      obtain⟨A,hA⟩:∃ A,A=wA W i:=⟨_,rfl⟩
      obtain⟨B,hB⟩:∃ B,B=wB W i:=⟨_,rfl⟩
      have WIR:Hid (∀ wx,Below w1.heap.size w1 wx→wx.cell? ⟨g0,i*2,none⟩=some (.int .i64 (A:Nat))∧wx.cell? ⟨g0,i*2+1,none⟩=some (.int .i64 (B:Nat))):=Lib.hid (fun wx hb=>by
       have P:=HPR.out.below hb HG0.out
       have c0:=P.c0 i h3
       have c1:=P.c1 i h3
       rw [Nat.zero_add,ea] at c0
       rw [Nat.zero_add,eb] at c1
       rw [hA,hB]
       exact⟨c0,c1⟩)
      rw [←hA] at la hab
      rw [←hB] at lb hab
      have HNS:Hid (∀ j,netK W z j (i+1)=updQ (updQ (fun j=>netK W z j i) A (netK W z A i+z i)) B (netK W z B i - z i) j):=Lib.hid (fun j=>netK_step W z i A B hA.symm hB.symm hab j)
      have HOFF:Hid (B*4+4≤A*4∨A*4+4≤B*4):=Lib.hid (by omega)
      have HCG:Hid (gn≠cb):=Lib.hid (fun e=>HCN.out.1 e.symm)
      have HKG:Hid (1000≤kB i∧kB i≤274877906940):=Lib.hid ⟨kB_ge i,Nat.le_trans (kB_le (show i≤24 by omega)) (by decide)⟩
      obtain⟨s5,a5,n5,c5,t5,b5,l5,k5,ra,qa⟩:=FM.out.row.cell A la
      obtain⟨s6,a6,n6,c6,t6,b6x,l6,k6,rb,qb⟩:=FM.out.row.cell B lb
      have HRDA:=Lib.hid ra
      have HRDB:=Lib.hid rb
      have HQA:=Lib.hid (qa trivial)
      have HQB:=Lib.hid (qb trivial)
      obtain⟨ya0,ya1,ya2,ya3,yal⟩:=ra
      have ixw:=fun X=>ixPr g0 W.length vk i h3 X
      have ixa:=fun X=>ixQq gn k k A la X
      have ixb:=fun X=>ixQq gn k k B lb X
      clear ea eb hA hB hab qa qb rb
      go_wp2
      have HKR:Hid (∀ w',Below w8.heap.size w8 w'→w'.cell? ⟨g0,i*2,none⟩=some (.int .i64 (A:Nat))∧w'.cell? ⟨g0,i*2+1,none⟩=some (.int .i64 (B:Nat))∧w'.cell? ⟨cb,0,none⟩=some (.bool s1)∧w'.cell? ⟨cb,1,none⟩=some (.slice a1 n1 c1)∧w'.cell? ⟨cb,2,none⟩=some (.bool t1)∧w'.cell? ⟨cb,3,none⟩=some (.slice b1 l1 k1)∧w'.cell? ⟨gn,B*4,none⟩=some (.bool s6)∧w'.cell? ⟨gn,B*4+1,none⟩=some (.slice a6 n6 c6)∧w'.cell? ⟨gn,B*4+2,none⟩=some (.bool t6)∧w'.cell? ⟨gn,B*4+3,none⟩=some (.slice b6x l6 k6)):=Lib.hid (fun w' hb=>by
       have h1:=WIR.out _ (FM.out.kb.trans (hb.mono FM.out.kb.size))
       have h2:=OC.out.below hb OC.out.lt
       have h3:=HRDB.out.below hb HRDB.out.lt
       exact⟨h1.1,h1.2,h2.c0,h2.c1,h2.c2,h2.c3,h3.c0,h3.c1,h3.c2,h3.c3⟩)
      have K8:=Lib.hid ((Below.refl w8.heap.size w8).drew)
      refine wp_region_last2 (S:=fun w'=>w'.cell? ⟨g0,i*2,none⟩=some (.int .i64 (A:Nat))∧w'.cell? ⟨g0,i*2+1,none⟩=some (.int .i64 (B:Nat))∧w'.cell? ⟨cb,0,none⟩=some (.bool s1)∧w'.cell? ⟨cb,1,none⟩=some (.slice a1 n1 c1)∧w'.cell? ⟨cb,2,none⟩=some (.bool t1)∧w'.cell? ⟨cb,3,none⟩=some (.slice b1 l1 k1)∧w'.cell? ⟨gn,B*4,none⟩=some (.bool s6)∧w'.cell? ⟨gn,B*4+1,none⟩=some (.slice a6 n6 c6)∧w'.cell? ⟨gn,B*4+2,none⟩=some (.bool t6)∧w'.cell? ⟨gn,B*4+3,none⟩=some (.slice b6x l6 k6)) (by kernel_rfl) (by kernel_rfl) (HKR.out _ K8.out) (fun hHeld=>?_)
      simp only [List.pop_toArray,List.dropLast_cons_cons,List.dropLast_singleton]
      refine wtk_begin [0,1,2,3,4,5,6,7,8,9,10,11,12,13,14,15,16,17,18,20,22,23,24,25,26,27,28,29,30] ?_
      iterate 29 (refine wtk (v:=?_) rfl (by kernel_rfl) (fun _ _ _ h=>h) (by kernel_rfl) ?_ (by assumption) ?_;rotate_left;(focus intro w0 hSw;(try dsimp only at hSw);go_simp;all_goals (with_reducible rfl));simp only [Act.put,List.setIfInBounds_toArray,List.set_cons_zero,List.set_cons_succ])
      refine wtk_end ?_
      refine wpAnyH_ready (rs:=[19]) (by kernel_rfl) (by simp) ?_
      refine AllReadyH.cons rfl (fun Kn hKn=>?_) AllReadyH.nil
      go_simp
      refine hKn.out _ _ ?_ (fun hHeld=>?_)
      ·(try dsimp only);exact HKR.out _ K8.out
      clear hKn Kn
      (try simp only [Act.put,List.setIfInBounds_toArray,List.set_cons_zero,List.set_cons_succ])
      refine wpAnyH_ready (rs:=[21]) (by kernel_rfl) (by simp) ?_
      refine AllReadyH.cons rfl (fun Kn hKn=>?_) AllReadyH.nil
      go_simp
      (go_at_call 81;(with_reducible refine (qv_add _ _ (netK W z A i) (z i) (kB i) _ (HQA.out.mono K8.out (Nat.le_refl _)) ((HQC.out.mono K8.out (Nat.le_refl _)).le HKG.out.1) HKG.out.2).mono ?_);rintro e w9 ⟨rA,rfl,hq,hb⟩;obtain⟨s10,a10,n10,c10,t10,b10,l10,k10,rfl,hq2⟩:=hq.shape;have HRA:=Lib.hid hq2.out;have K8:=Lib.hid (K8.out.trans (hb.mono K8.out.size));clear hq hq2 hb)
      go_wp2_with fail
      refine hKn.out _ _ ?_ (fun hHeld=>?_)
      ·(try dsimp only);exact HKR.out _ K8.out
      clear hKn Kn
      (try simp only [Act.put,List.setIfInBounds_toArray,List.set_cons_zero,List.set_cons_succ])
      refine wpAnyH_ready (rs:=[31]) (by kernel_rfl) (by simp) ?_
      refine AllReadyH.cons rfl (fun Kn hKn=>?_) AllReadyH.nil
      go_simp
      (go_at_call 82;(with_reducible refine (qv_sub _ _ (netK W z B i) (z i) (kB i) _ (HQB.out.mono K8.out (Nat.le_refl _)) ((HQC.out.mono K8.out (Nat.le_refl _)).le HKG.out.1) HKG.out.2).mono ?_);rintro e w10 ⟨rB,rfl,hq,hb⟩;obtain⟨s11,a11,n11,c11,t11,b11,l11,k11,rfl,hq2⟩:=hq.shape;have HRB:=Lib.hid hq2.out;have HRA:=Lib.hid (HRA.out.mono hb (Nat.le_refl _));have K8:=Lib.hid (K8.out.trans (hb.mono K8.out.size));clear hq hq2 hb;have FM9:=Lib.hid ((FM.out.below K8.out).congr (K':=2*kB i+1) (fun j hj p=>⟨p,rfl,by omega⟩));have FM10:=Lib.hid (FM9.out.put la HRA.out (Nat.le_refl _));have HRB10:=Lib.hid (FM9.out.keepQ la (.bool s10) (.slice a10 n10 c10) (.bool t10) (.slice b10 l10 k10) HRB.out);have FM11:=Lib.hid (FM10.out.put lb HRB10.out (Nat.le_refl _));have RA9:=Lib.hid (HRDA.out.below K8.out HRDA.out.lt);have RB9:=Lib.hid ((HRDB.out.below K8.out HRDB.out.lt).off (o:=A*4) (.bool s10) (.slice a10 n10 c10) (.bool t10) (.slice b10 l10 k10) HOFF.out);have OC9:=Lib.hid (((((OC.out.below K8.out OC.out.lt).setCell gn (A*4) (.bool s10) HCG.out).setCell gn (A*4+1) (.slice a10 n10 c10) HCG.out).setCell gn (A*4+2) (.bool t10) HCG.out).setCell gn (A*4+3) (.slice b10 l10 k10) HCG.out);clear ya0 ya1 ya2 ya3 yal;obtain⟨ya0,ya1,ya2,ya3,yal⟩:=RA9.out;obtain⟨yb0,yb1,yb2,yb3,ybl⟩:=RB9.out;have yf:=FM9.out.row.f;have fa0:=yf (A*4);have fa1:=yf (A*4+1);have fa2:=yf (A*4+2);have fa3:=yf (A*4+3);have yg:=FM10.out.row.f;have fb0:=yg (B*4);have fb1:=yg (B*4+1);have fb2:=yg (B*4+2);have fb3:=yg (B*4+3);clear yf yg)
      go_wp2_with fail
      refine hKn.out _ _ ?_ (fun hHeld=>?_)
      ·(try dsimp only);exact HKR.out _ K8.out
      clear hKn Kn
      (try simp only [Act.put,List.setIfInBounds_toArray,List.set_cons_zero,List.set_cons_succ])
      refine wtk_begin [32] ?_
      (refine wtk (v:=?_) rfl (by kernel_rfl) (fun _ _ _ h=>h) (by kernel_rfl) ?_ (by assumption) ?_;rotate_left;(focus intro w0 hSw;(try dsimp only at hSw);go_simp;all_goals (with_reducible rfl));simp only [Act.put,List.setIfInBounds_toArray,List.set_cons_zero,List.set_cons_succ])
      refine wtk_end ?_
      refine wpAnyH_ready (rs:=[33]) (by kernel_rfl) (by simp) ?_
      refine AllReadyH.cons rfl (fun Kn hKn=>?_) AllReadyH.nil
      go_simp
      refine hKn.out _ _ ?_ (fun hHeld=>?_)
      ·(try dsimp only);exact⟨(WIR.out _ FM10.out.kb).1,(WIR.out _ FM10.out.kb).2,OC9.out.c0,OC9.out.c1,OC9.out.c2,OC9.out.c3,RB9.out.c0,RB9.out.c1,RB9.out.c2,RB9.out.c3⟩
      clear hKn Kn
      (try simp only [Act.put,List.setIfInBounds_toArray,List.set_cons_zero,List.set_cons_succ])
      refine wtk_begin [34] ?_
      (refine wtk (v:=?_) rfl (by kernel_rfl) (fun _ _ _ h=>h) (by kernel_rfl) ?_ (by assumption) ?_;rotate_left;(focus intro w0 hSw;(try dsimp only at hSw);go_simp;all_goals (with_reducible rfl));simp only [Act.put,List.setIfInBounds_toArray,List.set_cons_zero,List.set_cons_succ])
      refine wtk_end ?_
      refine wpAnyH_done (by kernel_rfl) ?_ _
      refine lastQ_step2 rfl (fun Kn hKn=>?_)
      go_simp
      refine hKn.out _ _ ?_
      clear hKn Kn
      (try simp only [Act.put,List.setIfInBounds_toArray,List.set_cons_zero,List.set_cons_succ])
      go_wp2
      go_roundw
      case rel=>exact⟨i+1,by omega,by go_num,Lib.hid (FM11.out.congr (fun j hj p=>⟨by by_cases q:j=B;exact .inl q;exact .inr (.inr trivial),(HNS.out j).symm,Nat.le_refl _⟩))⟩
      case measure=>simp [intOf];omega
     ·have hiw:i=W.length:=by omega
      have FM:=Lib.hid (show FloM w1 wr gn gb k (fun _=>True) (fun j=>netK W z j W.length) (kB W.length) 1 from by
       have:=FM.out
       rw [hiw,HF.out.one] at this
       exact this)
      have e3:decide ((i:Int)<((W.length:Nat):Int))=false:=by simpa using h3
      have e3n:decide (i<W.length)=false:=by simpa using h3
      have hw1:IntKind.i64.wrap ((k:Int) - 1)=((k - 1:Nat):Int):=by rw [IntKind.wrap_i64];omega
      have HPOS:Hid (0<W.length):=Lib.hid (by
       rcases Nat.eq_zero_or_pos W.length with q | q
       ·exact absurd HC.out (con_zero h2 q)
       ·exact q)
      generalize wr=wu at *
      clear wr hiw h3
      obtain⟨K,hK⟩:∃ K,K=kB W.length:=⟨_,rfl⟩
      have HKG:Hid (2001≤K∧K≤20000000000):=Lib.hid ⟨by rw [hK];exact kB_mono (a:=1) HPOS.out,by rw [hK];exact kB_le hl⟩
      rw [←hK] at FM
      clear hK
      obtain⟨N1,hN1⟩:∃ N1,N1=k - 1:=⟨_,rfl⟩
      rw [←hN1] at hw1
      have HN1:=Lib.hid hN1
      have hN1p:1≤N1:=by omega
      have hN1k:N1<k:=by omega
      clear hN1
      go_wp2
      go_loopw [13] (fun v13 wi=>∃ j:Nat,1≤j∧j≤N1∧v13 = .int .i64 (j:Nat)∧Hid (FloM w1 wi gn gb k (fun _=>True) (fun j=>netK W z j W.length) K 1)) (fun v13 _=>N1 - (intOf v13).toNat)
      case atStart=>exact⟨1,by omega,by omega,rfl,FM⟩
      case round=>
       clear FM
       obtain⟨j,hj1,hj2,rfl,FM⟩:=hrel
       by_cases h4:j<N1
       ·have e4:decide ((j:Int)<(N1:Int))=true:=by simpa using h4
        have e4n:decide (j<N1)=true:=by simpa using h4
        have ix:=fun X=>ixQq gn k k j (by omega) X
        obtain⟨s',a',m',c',t',b',n',d',hr,hq⟩:=FM.out.row.cell j (by omega)
        have HQ0:=Lib.hid (hq trivial)
        have HN0:Hid (netK W z j W.length=0):=Lib.hid (by rw [HF.out.net j (by have:=HN1.out;omega),if_neg (by omega)])
        obtain⟨y0,y1,y2,y3,yl⟩:=hr
        clear hq
        go_wp2_with (go_at_call 83;go_loud ((with_reducible refine (qv_sign (netK W z j W.length) K _ HQ0.out).mono ?_);rintro e w3 ⟨rfl,hb⟩;rw [HN0.out,cmpR_self];have FM:=Lib.hid (FM.out.below hb);clear hb))
        go_roundw
        case rel=>exact⟨j+1,by omega,by omega,by go_num,FM⟩
        case measure=>simp [intOf];omega
       ·obtain rfl:N1=j:=by omega
        have e4:decide ((N1:Int)<(N1:Int))=false:=by simp
        have HUr:Hid (Strs wr (.slice ua W.length uc) W.length ss):=Lib.hid ⟨ua,ub,uo,uc,rfl,HUS.out.mono (KB.out.trans (FM.out.kb.mono KB.out.size)) (Nat.le_refl _)⟩
        have HVr:=Lib.hid (HV.out.below FM.out.kb)
        go_upto_region 22 with (first
         | (go_at_call 84;go_loud ((with_reducible refine (qs_any _ W.length z ss _ HUr.out (by omega) HQ.out).mono ?_);rintro e w3 ⟨qa,qk,xs,rfl,hqr,hb⟩;have HQC:=Lib.hid (QCur.of_sl (hqr.sl HPOS.out));have FM:=Lib.hid (FM.out.below hb);have HS13:=Lib.hid FM.out.kb.size;have HVr:=Lib.hid (HVr.out.below hb);clear hqr hb))
         | (go_at_call 75;go_loud ((with_reducible refine (walk_any k _ _ W x z _ HVr.out HQC.out hl (by omega) hN2 HOK.out HF.out.fall HF.out.x0 HF.out.xb).mono ?_);rintro e w4 ⟨r,F,rfl,WK,HCL⟩;have W34:=Lib.hid WK.out.kb;have H6R:Hid (r≠b6):=Lib.hid (by have:=WK.out.fr;have:=HS13.out;have:=HLT6.out;omega);have FM:=Lib.hid (FM.out.below WK.out.kb))))
        have HFV:Hid (∀ i,i<k→∃ s a n c t a2 n2 c2,F i=some (.agg #[.bool s,.slice a n c,.bool t,.slice a2 n2 c2])∧QV w4 (.agg #[.bool s,.slice a n c,.bool t,.slice a2 n2 c2]) (x i) 1000):=Lib.hid (fun i hi=>by
         have h5:=HCL.out i (HC.out i hi)
         unfold keyB at h5
         rcases hFi:F i with _ | v
         ·rw [hFi] at h5;cases h5
         ·have h6:=WK.out.v i v hFi
          obtain⟨s,a,n,c,t,a2,n2,c2,rfl,-,-,-⟩:=h6.shape
          exact⟨s,a,n,c,t,a2,n2,c2,rfl,QV.of h6⟩)
        have HMI:Hid (MapI w4 r F):=Lib.hid WK.out.m.m
        have HRL:Hid (r<w4.heap.size):=Lib.hid WK.out.m.m.lt
        have KX:=Lib.hid (Below.refl w4.heap.size w4)
        have FM4:=FM
        obtain⟨va2,vk2,hve,hp2⟩:=HVr.out.ex
        injection hve with u1 u2 u3
        subst u1
        subst u3
        clear u2
        obtain⟨g0,rfl,hpr,hg0⟩:=hp2 HPOS.out
        have HPR:=Lib.hid hpr
        have HG0:=Lib.hid hg0
        clear FM HVr HUr HQC WK HCL e4 hp2 hpr hg0
        go_wp2
        go_loopw [15] (fun v15 wi=>∃ j:Nat,j≤W.length∧v15 = .int .i64 (j:Nat)∧Hid (Below w4.heap.size w4 wi)) (fun v15 _=>W.length - (intOf v15).toNat)
        case atStart=>exact⟨0,by omega,rfl,KX⟩
        case round=>
         clear KX
         obtain⟨j,hj,rfl,KX⟩:=hrel
         by_cases h5:j<W.length
         ·have e5:decide ((j:Int)<((W.length:Nat):Int))=true:=by simpa using h5
          have e5n:decide (j<W.length)=true:=by simpa using h5
          obtain⟨ea,la⟩:=HOK.out.a h5
          obtain⟨eb,lb⟩:=HOK.out.b h5
          obtain⟨A,hA⟩:∃ A,A=wA W j:=⟨_,rfl⟩
          obtain⟨B,hB⟩:∃ B,B=wB W j:=⟨_,rfl⟩
          have WIR:Hid (∀ wx,Below w3.heap.size w3 wx→wx.cell? ⟨g0,j*2,none⟩=some (.int .i64 (A:Nat))∧wx.cell? ⟨g0,j*2+1,none⟩=some (.int .i64 (B:Nat))):=Lib.hid (fun wx hb=>by
           have P:=HPR.out.below hb HG0.out
           have c0:=P.c0 j h5
           have c1:=P.c1 j h5
           rw [Nat.zero_add,ea] at c0
           rw [Nat.zero_add,eb] at c1
           rw [hA,hB]
           exact⟨c0,c1⟩)
          have HFL:Hid (z j=x A - x B):=Lib.hid (by rw [hA,hB];exact HF.out.fall j h5)
          rw [←hA] at la
          rw [←hB] at lb
          obtain⟨s5,a5,n5,c5,t5,b5,l5,k5,fa,qa⟩:=HFV.out A la
          obtain⟨s6,a6,n6,c6,t6,b6x,l6,k6,fb,qb⟩:=HFV.out B lb
          have HFA:=Lib.hid fa
          have HFB:=Lib.hid fb
          have HQA:=Lib.hid qa
          have HQB:=Lib.hid qb
          have HTQ:=Lib.hid (HQ.out.txt j h5)
          have ixw:=fun X=>ixPr g0 W.length vk j h5 X
          have ixs:=ixN HUS.out j uc h5
          clear ea eb hA hB fa fb qa qb
          go_wp2
          have HKR:Hid (∀ w',Below w4.heap.size w4 w'→w'.cell? ⟨g0,j*2,none⟩=some (.int .i64 (A:Nat))∧w'.cell? ⟨g0,j*2+1,none⟩=some (.int .i64 (B:Nat))∧w'.cell? ⟨ub,uo+j,none⟩=some (.string (ss j))∧(Instr.lookup 124 (.map (some r)) (.int .i64 (A:Nat)) false).run Tryz.prog w' = .ok (.agg #[.bool s5,.slice a5 n5 c5,.bool t5,.slice b5 l5 k5]) w'∧(Instr.lookup 124 (.map (some r)) (.int .i64 (B:Nat)) false).run Tryz.prog w' = .ok (.agg #[.bool s6,.slice a6 n6 c6,.bool t6,.slice b6x l6 k6]) w'):=Lib.hid (fun w' hb=>by
           have h1:=WIR.out _ (W34.out.trans (hb.mono W34.out.size))
           have h2:=(HUS.out.mono (KB.out.trans ((FM4.out.kb.trans (hb.mono FM4.out.kb.size)).mono KB.out.size)) (Nat.le_refl _)).cell j h5
           have h3:=(HMI.out.below hb HRL.out).look mq_u int_u A _ HFA.out false
           have h4:=(HMI.out.below hb HRL.out).look mq_u int_u B _ HFB.out false
           exact⟨h1.1,h1.2,h2,h3,h4⟩)
          have K5:=Lib.hid KX.out.drew
          refine wp_region_held_drew (S:=fun w'=>w'.cell? ⟨g0,j*2,none⟩=some (.int .i64 (A:Nat))∧w'.cell? ⟨g0,j*2+1,none⟩=some (.int .i64 (B:Nat))∧w'.cell? ⟨ub,uo+j,none⟩=some (.string (ss j))∧(Instr.lookup 124 (.map (some r)) (.int .i64 (A:Nat)) false).run Tryz.prog w' = .ok (.agg #[.bool s5,.slice a5 n5 c5,.bool t5,.slice b5 l5 k5]) w'∧(Instr.lookup 124 (.map (some r)) (.int .i64 (B:Nat)) false).run Tryz.prog w' = .ok (.agg #[.bool s6,.slice a6 n6 c6,.bool t6,.slice b6x l6 k6]) w') (by kernel_rfl) (HKR.out _ K5.out) (fun hHeld=>?_)
          refine wtk_begin [0,1,2,3,4,5,6,7,8,9,10,11,12,13,15,16,17,18] ?_
          iterate 18 (refine wtk (v:=?_) rfl (by kernel_rfl) (fun _ _ _ h=>h) (by kernel_rfl) ?_ (by assumption) ?_;rotate_left;(focus intro w0 hSw;(try dsimp only at hSw);go_simp;all_goals (with_reducible rfl));simp only [Act.put,List.setIfInBounds_toArray,List.set_cons_zero,List.set_cons_succ])
          refine wtk_end ?_
          refine wpAnyH_ready (rs:=[14]) (by kernel_rfl) (by simp) ?_
          refine AllReadyH.cons rfl (fun Kn hKn=>?_) AllReadyH.nil
          go_simp
          (go_at_call 82;(with_reducible refine (qv_sub _ _ (x A) (x B) 1000 _ (HQA.out.mono K5.out (Nat.le_refl _)) (HQB.out.mono K5.out (Nat.le_refl _)) (by omega)).mono ?_);rintro e w5 ⟨r1,rfl,hq,hb⟩;rw [←HFL.out] at hq;have HR1:=Lib.hid hq;have K5:=Lib.hid (K5.out.trans (hb.mono K5.out.size));clear hq hb)
          go_wp2_with fail
          refine hKn.out _ _ ?_ (fun hHeld=>?_)
          ·(try dsimp only);exact HKR.out _ K5.out
          clear hKn Kn
          (try simp only [Act.put,List.setIfInBounds_toArray,List.set_cons_zero,List.set_cons_succ])
          refine wpAnyH_ready (rs:=[19]) (by kernel_rfl) (by simp) ?_
          refine AllReadyH.cons rfl (fun Kn hKn=>?_) AllReadyH.nil
          go_simp
          (go_at_call 78;(with_reducible refine (of_any (ss j) (z j) _ HTQ.out).mono ?_);rintro e w6 ⟨s1,a1,n1,c1,t1,b1,l1,k1,rfl,hq,hb⟩;have HR2:=Lib.hid ((QV.of hq.out).le (show 1000≤2*1000+1 by omega));have HR1:=Lib.hid (HR1.out.mono hb.out (Nat.le_refl _));have K5:=Lib.hid (K5.out.trans (hb.out.mono K5.out.size));clear hq hb)
          go_wp2_with fail
          refine hKn.out _ _ ?_ (fun hHeld=>?_)
          ·(try dsimp only);exact HKR.out _ K5.out
          clear hKn Kn
          (try simp only [Act.put,List.setIfInBounds_toArray,List.set_cons_zero,List.set_cons_succ])
          refine wpAnyH_ready (rs:=[20]) (by kernel_rfl) (by simp) ?_
          refine AllReadyH.cons rfl (fun Kn hKn=>?_) AllReadyH.nil
          go_simp
          (go_at_call 85;(with_reducible refine (qv_cmp _ _ (z j) (z j) (2*1000+1) _ HR1.out HR2.out (by omega)).mono ?_);rintro e w7 ⟨rfl,hb⟩;rw [cmpR_self];have K5:=Lib.hid (K5.out.trans (hb.mono K5.out.size));clear hb)
          go_wp2_with fail
          refine hKn.out _ _ ?_ (fun hHeld=>?_)
          ·(try dsimp only);exact HKR.out _ K5.out
          clear hKn Kn
          (try simp only [Act.put,List.setIfInBounds_toArray,List.set_cons_zero,List.set_cons_succ])
          refine wtk_begin [21] ?_
          (refine wtk (v:=?_) rfl (by kernel_rfl) (fun _ _ _ h=>h) (by kernel_rfl) ?_ (by assumption) ?_;rotate_left;(focus intro w0 hSw;(try dsimp only at hSw);go_simp;all_goals (with_reducible rfl));simp only [Act.put,List.setIfInBounds_toArray,List.set_cons_zero,List.set_cons_succ])
          refine wtk_end ?_
          refine wpAnyH_done (by kernel_rfl) ?_ _
          (try simp only [List.getElem_toArray,List.getElem_cons_succ,List.getElem_cons_zero,Act.put,List.setIfInBounds_toArray,List.set_cons_zero,List.set_cons_succ])
          go_wp2
          go_roundw
          case rel=>exact⟨j+1,by omega,by go_num,K5⟩
          case measure=>simp [intOf];omega
         ·have hjw:j=W.length:=by omega
          have e5:decide ((j:Int)<((W.length:Nat):Int))=false:=by simpa using h5
          have e5n:decide (j<W.length)=false:=by simpa using h5
          have FM:=Lib.hid (FM4.out.below KX.out)
          obtain⟨s8,a8,n8,c8,ob,zb⟩:=FM.out.box
          have OB:=Lib.hid ob
          have ZB:=Lib.hid zb
          obtain⟨s5,a5,n5,c5,t5,b5,l5,k5,rd,q0⟩:=FM.out.row.cell 0 (by omega)
          rw [Nat.zero_mul] at rd
          have HRD:=Lib.hid rd
          have q0:=q0 trivial
          rw [HF.out.net 0 (by have:=HN1.out;omega),if_pos rfl] at q0
          have HQ0:=Lib.hid q0
          have HTP:=Lib.hid (cmpR_pos HF.out.pos)
          have ix0:∀ X,(Instr.indexAt 126 (.slice (some ⟨gn,0,none⟩) k k) (.int .i64 0)).run Tryz.prog X = .ok (.pointer (some ⟨gn,0,none⟩)) X:=fun X=>by
           have:=ixQq gn k k 0 (by omega) X
           simpa using this
          clear ob zb rd q0 h5 hj hjw
          go_wp2
          have HKR:Hid (∀ w',Below wr.heap.size wr w'→w'.cell? ⟨gb,0,none⟩=some (.bool s8)∧w'.cell? ⟨gb,1,none⟩=some (.slice a8 n8 c8)∧w'.cell? ⟨gn,0,none⟩=some (.bool s5)∧w'.cell? ⟨gn,1,none⟩=some (.slice a5 n5 c5)):=Lib.hid (fun w' hb=>⟨(OB.out.below hb OB.out.lt).c0,(OB.out.below hb OB.out.lt).c1,(HRD.out.below hb HRD.out.lt).c0,(HRD.out.below hb HRD.out.lt).c1⟩)
          have K5:=Lib.hid ((Below.refl wr.heap.size wr).drew)
          refine wp_region_held_drew (S:=fun w'=>w'.cell? ⟨gb,0,none⟩=some (.bool s8)∧w'.cell? ⟨gb,1,none⟩=some (.slice a8 n8 c8)∧w'.cell? ⟨gn,0,none⟩=some (.bool s5)∧w'.cell? ⟨gn,1,none⟩=some (.slice a5 n5 c5)) (by kernel_rfl) (HKR.out _ K5.out) (fun hHeld=>?_)
          refine wtk_begin [0] ?_
          (refine wtk (v:=?_) rfl (by kernel_rfl) (fun _ _ _ h=>h) (by kernel_rfl) ?_ (by assumption) ?_;rotate_left;(focus intro w0 hSw;(try dsimp only at hSw);go_simp;all_goals (with_reducible rfl));simp only [Act.put,List.setIfInBounds_toArray,List.set_cons_zero,List.set_cons_succ])
          refine wtk_end ?_
          refine wpAnyH_ready (rs:=[1]) (by kernel_rfl) (by simp) ?_
          refine AllReadyH.cons rfl (fun Kn hKn=>?_) AllReadyH.nil
          go_simp
          (go_at_call 76;(with_reducible refine (zint_any 1 (by omega) (by omega) _).mono ?_);rintro e w5 ⟨z1,rfl,hz,hb⟩;have HO:=Lib.hid (hz.le (show 5≤1000 by omega));have K5:=Lib.hid (K5.out.trans (hb.mono K5.out.size));clear hz hb)
          go_wp2_with fail
          refine hKn.out _ _ ?_ (fun hHeld=>?_)
          ·(try dsimp only);exact HKR.out _ K5.out
          clear hKn Kn
          (try simp only [Act.put,List.setIfInBounds_toArray,List.set_cons_zero,List.set_cons_succ])
          refine wpAnyH_ready (rs:=[2]) (by kernel_rfl) (by simp) ?_
          refine AllReadyH.cons rfl (fun Kn hKn=>?_) AllReadyH.nil
          go_simp
          (go_at_call 86;(with_reducible refine (zcmp_any _ _ 1 1 1000 _ (ZB.out.mono K5.out (Nat.le_refl _)) HO.out (by omega)).mono ?_);rintro e w6 ⟨rfl,hb⟩;rw [show sgZ ((1:Int) - 1)=0 from rfl];have K5:=Lib.hid (K5.out.trans (hb.mono K5.out.size));clear hb)
          go_wp2_with fail
          refine hKn.out _ _ ?_ (fun hHeld=>?_)
          ·(try dsimp only);exact HKR.out _ K5.out
          clear hKn Kn
          (try simp only [Act.put,List.setIfInBounds_toArray,List.set_cons_zero,List.set_cons_succ])
          refine wtk_begin [3,4,5,6,7,8] ?_
          iterate 6 (refine wtk (v:=?_) rfl (by kernel_rfl) (fun _ _ _ h=>h) (by kernel_rfl) ?_ (by assumption) ?_;rotate_left;(focus intro w0 hSw;(try dsimp only at hSw);go_simp;all_goals (with_reducible rfl));simp only [Act.put,List.setIfInBounds_toArray,List.set_cons_zero,List.set_cons_succ])
          refine wtk_end ?_
          refine wpAnyH_ready (rs:=[9]) (by kernel_rfl) (by simp) ?_
          refine AllReadyH.cons rfl (fun Kn hKn=>?_) AllReadyH.nil
          go_simp
          (go_at_call 83;(with_reducible refine (qv_sign T K _ (HQ0.out.mono K5.out (Nat.le_refl _))).mono ?_);rintro e w7 ⟨rfl,hb⟩;rw [HTP.out];have K5:=Lib.hid (K5.out.trans (hb.mono K5.out.size));clear hb)
          go_wp2_with fail
          refine hKn.out _ _ ?_ (fun hHeld=>?_)
          ·(try dsimp only);exact HKR.out _ K5.out
          clear hKn Kn
          (try simp only [Act.put,List.setIfInBounds_toArray,List.set_cons_zero,List.set_cons_succ])
          refine wtk_begin [10,11] ?_
          iterate 2 (refine wtk (v:=?_) rfl (by kernel_rfl) (fun _ _ _ h=>h) (by kernel_rfl) ?_ (by assumption) ?_;rotate_left;(focus intro w0 hSw;(try dsimp only at hSw);go_simp;all_goals (with_reducible rfl));simp only [Act.put,List.setIfInBounds_toArray,List.set_cons_zero,List.set_cons_succ])
          refine wtk_end ?_
          refine wpAnyH_done (by kernel_rfl) ?_ _
          (try simp only [List.getElem_toArray,List.getElem_cons_succ,List.getElem_cons_zero,Act.put,List.setIfInBounds_toArray,List.set_cons_zero,List.set_cons_succ])
          go_wp2
          have HMI8:=Lib.hid ((HMI.out.below KX.out HRL.out).below K5.out (Nat.lt_of_lt_of_le HRL.out KX.out.size))
          have HRL8:=Lib.hid (Nat.lt_of_lt_of_le (Nat.lt_of_lt_of_le HRL.out KX.out.size) K5.out.size)
          have HRD:=Lib.hid (HRD.out.below K5.out HRD.out.lt)
          have HQ0:=Lib.hid (HQ0.out.mono K5.out (Nat.le_refl _))
          have KF:=Lib.hid (FM.out.kb.trans (K5.out.mono FM.out.kb.size))
          have O8:=Lib.hid (O6.out.below KF.out O6.out.lt)
          have H6N:Hid (b6≠gn):=Lib.hid (by have:=FM.out.hn;have:=HLT6.out;omega)
          obtain⟨s6,a6,n6,c6,t6,b6x,l6,k6,fa,qa⟩:=HFV.out 0 (by omega)
          obtain⟨s9,a9,n9,c9,t9,b9,l9,k9,fb,qb⟩:=HFV.out N1 hN1k
          have HFA:=Lib.hid fa
          have HFB:=Lib.hid fb
          have K47:=Lib.hid (KX.out.trans (K5.out.mono KX.out.size))
          have HQA:=Lib.hid (qa.mono K47.out (Nat.le_refl _))
          have HQB:=Lib.hid (qb.mono K47.out (Nat.le_refl _))
          have HTN:Hid (T≠0):=Lib.hid (fun e=>by have:=HF.out.pos;rw [e] at this;exact Rat.lt_irrefl this)
          generalize w7=w8 at *
          clear K5 fa fb qa qb HKR OB ZB K47 HO
          have HKR:Hid (∀ w',MapI w' r F→Rd4 w' gn 0 (.bool s5) (.slice a5 n5 c5) (.bool t5) (.slice b5 l5 k5)→(Instr.lookup 124 (.map (some r)) (.int .i64 0) false).run Tryz.prog w' = .ok (.agg #[.bool s6,.slice a6 n6 c6,.bool t6,.slice b6x l6 k6]) w'∧(Instr.lookup 124 (.map (some r)) (.int .i64 (N1:Nat)) false).run Tryz.prog w' = .ok (.agg #[.bool s9,.slice a9 n9 c9,.bool t9,.slice b9 l9 k9]) w'∧w'.cell? ⟨gn,0,none⟩=some (.bool s5)∧w'.cell? ⟨gn,1,none⟩=some (.slice a5 n5 c5)∧w'.cell? ⟨gn,2,none⟩=some (.bool t5)∧w'.cell? ⟨gn,3,none⟩=some (.slice b5 l5 k5)):=Lib.hid (fun w' hm ho=>by
           have h3:=hm.look mq_u int_u 0 _ HFA.out false
           have h4:=hm.look mq_u int_u N1 _ HFB.out false
           exact⟨h3,h4,ho.c0,ho.c1,ho.c2,ho.c3⟩)
          have K5:=Lib.hid ((Below.refl w8.heap.size w8).drew)
          refine wp_region_held_drew (S:=fun w'=>(Instr.lookup 124 (.map (some r)) (.int .i64 0) false).run Tryz.prog w' = .ok (.agg #[.bool s6,.slice a6 n6 c6,.bool t6,.slice b6x l6 k6]) w'∧(Instr.lookup 124 (.map (some r)) (.int .i64 (N1:Nat)) false).run Tryz.prog w' = .ok (.agg #[.bool s9,.slice a9 n9 c9,.bool t9,.slice b9 l9 k9]) w'∧w'.cell? ⟨gn,0,none⟩=some (.bool s5)∧w'.cell? ⟨gn,1,none⟩=some (.slice a5 n5 c5)∧w'.cell? ⟨gn,2,none⟩=some (.bool t5)∧w'.cell? ⟨gn,3,none⟩=some (.slice b5 l5 k5)) (by kernel_rfl) (HKR.out _ (HMI8.out.below K5.out HRL8.out) (HRD.out.below K5.out HRD.out.lt)) (fun hHeld=>?_)
          refine wtk_begin [0,1,2,3,4,5,7,8,9] ?_
          iterate 9 (refine wtk (v:=?_) rfl (by kernel_rfl) (fun _ _ _ h=>h) (by kernel_rfl) ?_ (by assumption) ?_;rotate_left;(focus intro w0 hSw;(try dsimp only at hSw);go_simp;all_goals (with_reducible rfl));simp only [Act.put,List.setIfInBounds_toArray,List.set_cons_zero,List.set_cons_succ])
          refine wtk_end ?_
          refine wpAnyH_ready (rs:=[6]) (by kernel_rfl) (by simp) ?_
          refine AllReadyH.cons rfl (fun Kn hKn=>?_) AllReadyH.nil
          go_simp
          (go_at_call 82;(with_reducible refine (qv_sub _ _ (x 0) (x N1) 1000 _ (HQA.out.mono K5.out (Nat.le_refl _)) (HQB.out.mono K5.out (Nat.le_refl _)) (by omega)).mono ?_);rintro e w9 ⟨r1,rfl,hq,hb⟩;have HR1:=Lib.hid (hq.le HKG.out.1);have K5:=Lib.hid (K5.out.trans (hb.mono K5.out.size));clear hq hb)
          go_wp2_with fail
          refine hKn.out _ _ ?_ (fun hHeld=>?_)
          ·(try dsimp only);exact HKR.out _ (HMI8.out.below K5.out HRL8.out) (HRD.out.below K5.out HRD.out.lt)
          clear hKn Kn
          (try simp only [Act.put,List.setIfInBounds_toArray,List.set_cons_zero,List.set_cons_succ])
          refine wpAnyH_ready (rs:=[10]) (by kernel_rfl) (by simp) ?_
          refine AllReadyH.cons rfl (fun Kn hKn=>?_) AllReadyH.nil
          go_simp
          (go_at_call 88;(with_reducible refine (qv_div _ _ (x 0 - x N1) T K _ HR1.out (HQ0.out.mono K5.out (Nat.le_refl _)) HTN.out (Nat.le_trans HKG.out.2 (by decide))).mono ?_);rintro e w10 ⟨r2,rfl,hq,hb⟩;have HR2:=Lib.hid hq;have K5:=Lib.hid (K5.out.trans (hb.mono K5.out.size));clear hq hb)
          go_wp2_with fail
          refine hKn.out _ _ ?_ (fun hHeld=>?_)
          ·(try dsimp only);exact HKR.out _ (HMI8.out.below K5.out HRL8.out) (HRD.out.below K5.out HRD.out.lt)
          clear hKn Kn
          (try simp only [Act.put,List.setIfInBounds_toArray,List.set_cons_zero,List.set_cons_succ])
          refine wpAnyH_ready (rs:=[11]) (by kernel_rfl) (by simp) ?_
          refine AllReadyH.cons rfl (fun Kn hKn=>?_) AllReadyH.nil
          go_simp
          (go_at_call 87;(with_reducible refine (qv_low _ ((x 0 - x N1) / T) (2*K) _ HR2.out (by have:=HKG.out.2;omega)).mono ?_);rintro e w11 ⟨r3,rfl,hq,hb⟩;obtain⟨s7,a7,n7,c7,t7,b7,l7,k7,rfl,-,-,-⟩:=hq.shape;have HR3:=Lib.hid hq;have K5:=Lib.hid (K5.out.trans (hb.mono K5.out.size));have O11:=Lib.hid (O8.out.below K5.out O8.out.lt);obtain⟨o0,o1,o2,o3,of,ol⟩:=O11.out;have of0:=of 0;have of1:=of 1;have of2:=of 2;have of3:=of 3;clear hq hb of)
          go_wp2_with fail
          refine hKn.out _ _ ?_ (fun hHeld=>?_)
          ·(try dsimp only);exact HKR.out _ (HMI8.out.below K5.out HRL8.out) (HRD.out.below K5.out HRD.out.lt)
          clear hKn Kn
          (try simp only [Act.put,List.setIfInBounds_toArray,List.set_cons_zero,List.set_cons_succ])
          refine wpAnyH_ready (rs:=[12]) (by kernel_rfl) (by simp) ?_
          refine AllReadyH.cons rfl (fun Kn hKn=>?_) AllReadyH.nil
          go_simp
          refine hKn.out _ _ ?_ (fun hHeld=>?_)
          ·(try dsimp only);exact HKR.out _ ((HMI8.out.below K5.out HRL8.out).of_heap (by rw [Below.heap_setCell _ _ _ _ H6R.out,Below.heap_setCell _ _ _ _ H6R.out,Below.heap_setCell _ _ _ _ H6R.out,Below.heap_setCell _ _ _ _ H6R.out])) ((HRD.out.below K5.out HRD.out.lt).far (o:=0) _ _ _ _ H6N.out)
          clear hKn Kn
          (try simp only [Act.put,List.setIfInBounds_toArray,List.set_cons_zero,List.set_cons_succ])
          refine wtk_begin [13] ?_
          (refine wtk (v:=?_) rfl (by kernel_rfl) (fun _ _ _ h=>h) (by kernel_rfl) ?_ (by assumption) ?_;rotate_left;(focus intro w0 hSw;(try dsimp only at hSw);go_simp;all_goals (with_reducible rfl));simp only [Act.put,List.setIfInBounds_toArray,List.set_cons_zero,List.set_cons_succ])
          refine wtk_end ?_
          refine wpAnyH_done (by kernel_rfl) ?_ _
          (try simp only [List.getElem_toArray,List.getElem_cons_succ,List.getElem_cons_zero,Act.put,List.setIfInBounds_toArray,List.set_cons_zero,List.set_cons_succ])
          go_wp2
          have HXX:Hid ((0 - x (k - 1)) / T=(x 0 - x N1) / T):=Lib.hid (by rw [HF.out.x0,HN1.out])
          have HRT:=HRT.out
          rw [HXX.out] at HRT
          have HRQ:=Lib.hid ((QV.of (HR3.out.tight HRT.1 (by rw [Int.natAbs_natCast];exact HRT.2))).at4 O11.out (.bool s7) (.slice a7 n7 c7) (.bool t7) (.slice b7 l7 k7))
          have ON:=O11.out.anew (.bool s7) (.slice a7 n7 c7) (.bool t7) (.slice b7 l7 k7)
          obtain⟨x0,x1,x2,x3,xf,xl⟩:=ON
          have KZ:=Lib.hid (below_st4 (o:=0) (b:=b6) (KB.out.trans ((KF.out.trans (K5.out.mono KF.out.size)).mono KB.out.size)) (by rw [HB6.out];exact Nat.le_refl _) (.bool s7) (.slice a7 n7 c7) (.bool t7) (.slice b7 l7 k7))
          refine bodyPost_ret (v:=.tuple #[.agg #[.bool s7,.slice a7 n7 c7,.bool t7,.slice b7 l7 k7],.bool true]) (by simp [results,Tryz.results28,go_sem,x0,x1,x2,x3,xf,xl]) rfl ?_
          exact⟨s7,a7,n7,c7,t7,b7,l7,k7,rfl,by rw [HXX.out];exact HRQ.out,KZ.out⟩
end Go.Proofs.YtolkchkedieppaaGreat
