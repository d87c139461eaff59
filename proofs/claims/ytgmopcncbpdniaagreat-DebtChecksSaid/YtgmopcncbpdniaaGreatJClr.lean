import Derived.Test.YtgmopcncbpdniaaGreatJGen
import Derived.Test.YtgmopcncbpdniaaGreatJCut
import Derived.Test.YtgmopcncbpdniaaGreatJGrp2
import Derived.Test.YtgmopcncbpdniaaGreatJTakes
set_option linter.unusedVariables false
set_option linter.unusedSimpArgs false
namespace Go.Proofs.YtgmopcncbpdniaaGreat
open Go.RowKit
def cutM (m:Nat→Nat) (i:Nat):Nat:=min (m i) 9
set_option maxHeartbeats 4000000 in
set_option maxRecDepth 100000 in
theorem rows_any (v:Value) (n:Nat) (m:Nat→Nat) (f:Nat→Nat→Int) (w:World) (hv:Mat w v n m f) (hn:n≤9223372036854775807) (hm:∀ i,i<n→m i≤9223372036854775807) :
  Calls Tryz.prog 21 #[v] w fun e w'=>∃ va vk,e = .returned (.slice va (min n 9) vk)∧Mat w' (.slice va (min n 9) vk) (min n 9) (cutM m) f∧Below w.heap.size w w':=by
 obtain⟨a,b,o,c,ra0,rb0,ro0,rc0,rfl,hs⟩:=hv
 have HS:=Lib.hid hs
 have HM:=Lib.hid hm
 obtain⟨i0,hinf,hz0,hz1,hz2⟩:=info_parts infoM
 obtain⟨N,hN⟩:∃ N,N=min n 9:=⟨_,rfl⟩
 rw [←hN]
 have hNn:N≤n:=by omega
 have hN9:N≤9:=by omega
 have HN:=Lib.hid hN
 have KW0:=Lib.hid ((Below.refl w.heap.size w).alloc (Nat.le_refl _) (.cells #[] 24))
 have G0:=Lib.hid (RowsIn.start (m:=cutM m) (f:=f) (World.ownsRow_made (e:=24) (base:=w.heap.size) (size:=1) w #[] 0 (Nat.le_refl _) (by unfold maxLen;omega) rfl))
 clear hs hm hN
 go_enter Tryz.func21,Tryz.ntmps21
 go_wp2
 go_loopw [3,4] (fun v3 v4 wr=>∃ q:Nat,q≤N∧v4 = .int .i64 (q:Nat)∧∃ va vk ra rc,v3 = .slice va q vk∧Hid (RowsIn w.heap.size wr q (.slice va q vk) ra rc (cutM m) f)∧Hid (Below w.heap.size w wr)) (fun _ v4 _=>N - (intOf v4).toNat)
 case atStart=>exact⟨0,by omega,rfl,_,0,_,_,rfl,G0,KW0⟩
 case round=>
  clear G0 KW0
  obtain⟨q,hq,rfl,va4,vk4,ra,rc,rfl,G,KW⟩:=hrel
  by_cases h:q<N
  ·have hqn:q<n:=by omega
   have e1:decide ((q:Int)<(n:Int))=true:=by simpa using hqn
   have e1n:decide (q<n)=true:=by simpa using hqn
   have e2:decide ((q:Int)≤8)=true:=by simp;omega
   have hix:=fun W=>ixM HS.out.top q c hqn W
   have hc:=(HS.out.top.mono KW.out (Nat.le_refl _)).cell q hqn
   have HROW:Hid (Ints wr (.slice (ra0 q) (m q) (rc0 q)) (m q) (f q)):=Lib.hid ⟨_,_,_,_,rfl,(HS.out.row q hqn).mono KW.out (Nat.le_refl _)⟩
   go_wp2_with (first
    | (go_at_call 20;(with_reducible refine (cut_any _ (m q) (f q) _ HROW.out (HM.out q hqn)).mono ?_);rintro e w2 ⟨va2,vk2,rfl,ho2,hb2⟩;have OW2:Hid (w2.ownsRow wr.heap.size 3 1 (.slice va2 (cutM m q) vk2) (cutM m q) (ics (f q) (cutM m q))):=Lib.hid ho2;have HB2:=Lib.hid hb2;have KW2:=Lib.hid (KW.out.trans (hb2.mono KW.out.size));have OW:=Lib.hid (own_kept G.out.own hb2);clear ho2 hb2)
    | (at_builtin;refine wpList_append_own_at _ rfl (.tmp 16) (.tmp 22) 25 rfl w.heap.size 24 i0 (.slice none 0 0) 1 24 Tryz.underlying25 hinf hz0 hz1 hz2 rfl (by decide) (.slice va4 q vk4) q (rowCells ra (cutM m) rc q) rfl (OW.out.alloc _) ⟨w2.heap.size,0,none⟩ 1 1 [.slice va2 (cutM m q) vk2] rfl rfl (new1 w2 (.slice va2 (cutM m q) vk2) 24) (one1 _ rfl) (by unfold maxLen;omega) (by omega) (by have:=KW2.out.size;simp;omega) ?_;intro v' w5 hown hgrow _ hbk;have HOWN:=Lib.hid hown;have HGROW:=Lib.hid hgrow;have HBK:=Lib.hid hbk;obtain⟨va5,vk5,rfl⟩:=own_shape hown;clear hown hgrow hbk))
   go_roundw
   case rel=>
    have G2:=G.out.push KW.out.size HB2.out OW2.out _ HGROW.out HBK.out HOWN.out
    exact⟨q+1,by omega,by go_num,va5,vk5,_,_,rfl,Lib.hid G2,Lib.hid ((KW2.out.alloc KW2.out.size _).grown HGROW.out (by have:=KW2.out.size;simp;omega) (fun kk e=>(G.out.own.lt kk e).1))⟩
   case measure=>simp [intOf];omega
  ·obtain rfl:q=N:=by omega
   have hlast:RowsIn w.heap.size wr q (.slice va4 q vk4) ra rc (cutM m) f∧Below w.heap.size w wr:=⟨G.out,KW.out⟩
   have HL:=Lib.hid hlast
   clear hlast
   by_cases h9:q<n
   ·have e1:decide ((q:Int)<(n:Int))=true:=by simpa using h9
    have e1n:decide (q<n)=true:=by simpa using h9
    have e2:decide ((q:Int)≤8)=false:=by have:=HN.out;simp;omega
    go_wp2
    go_ret
    exact⟨_,_,rfl,HL.out.1.mat,HL.out.2⟩
   ·have e1:decide ((q:Int)<(n:Int))=false:=by simpa using h9
    have e1n:decide (q<n)=false:=by simpa using h9
    go_wp2
    go_ret
    exact⟨_,_,rfl,HL.out.1.mat,HL.out.2⟩
end Go.Proofs.YtgmopcncbpdniaaGreat
namespace Go.Proofs.YtgmopcncbpdniaaGreat
open Go.RowKit
section
variable {B:Nat} {w w':World} {q:Nat} {v:Value} {ra:Nat→Option Addr} {rc m:Nat→Nat} {f:Nat→Nat→Int}
theorem RowsIn.below (G:RowsIn B w q v ra rc m f) (hb:Below w.heap.size w w'):RowsIn B w' q v ra rc m f:=
 ⟨own_kept G.own hb,fun i hi=>own_kept (G.row i hi) hb,G.far,G.apart⟩
end
end Go.Proofs.YtgmopcncbpdniaaGreat
namespace Go.Proofs.YtgmopcncbpdniaaGreat
open Go.RowKit
attribute [local go_sem ↓] Go.wp_at_zero Go.wp_at_succ
theorem mkBn (n:Nat) (hn:n≤1000) (W:World):(Instr.makeSlice 44 (.int .i64 (n:Nat)) (.int .i64 (n:Nat))).run Tryz.prog W = .ok (.slice (some ⟨W.heap.size,0,none⟩) n n) (W.alloc (.cells (madeCells #[.bool false] n) 4)):=
 run_make_row' (P:=Tryz.prog) 44 4 (.bool false) 1 Tryz.underlying44 infoB rfl .i64 .i64 n (by omega) (by omega) W
def bF (F:Nat→Bool) (i:Nat):Value:=.bool (F i)
theorem bls_of {w:World} {b n:Nat} {F:Nat→Bool} (h:w.rowIs b 4 n (bF F)):Bls w b n F:=⟨fun i hi=>h.cell hi,h.lt⟩
def rwF (n:Nat) (cash:Nat→Int) (d:Nat→Nat→Int) (ps:(Nat→Bool)→Nat→Rat) (q r:Nat):Int:=((frN (NW n cash d ps q) n r:Nat):Int)
def rwM (n:Nat) (cash:Nat→Int) (d:Nat→Nat→Int) (ps:(Nat→Bool)→Nat→Rat) (q:Nat):Nat:=rankF (NW n cash d ps q) n
theorem RowsIn.setFar {B:Nat} {w:World} {q:Nat} {v:Value} {ra:Nat→Option Addr} {rc m:Nat→Nat} {f:Nat→Nat→Int} (G:RowsIn B w q v ra rc m f) {b o:Nat} (hb:b<B) (u:Value):RowsIn B (w.setCell ⟨b,o,none⟩ u) q v ra rc m f:=by
 have hg:w.grownBy (w.setCell ⟨b,o,none⟩ u) (some b):=⟨rfl,rfl,rfl,by simp [World.setCell],fun k _ hk=>Below.heap_setCell _ _ _ _ (fun e=>hk (by rw [e]))⟩
 exact⟨G.own.kept hg (.inr (fun e=>by have:=(G.own.lt b e).1;omega)),fun i hi=>(G.row i hi).kept hg (.inr (fun e=>by have:=((G.row i hi).lt b e).1;omega)),G.far,G.apart⟩
theorem RowsIn.pushR {B base:Nat} {w w5:World} {q:Nat} {v v':Value} {ra:Nat→Option Addr} {rc m:Nat→Nat} {f:Nat→Nat→Int} (G:RowsIn B w q v ra rc m f) {a:Option Addr} {c:Nat} (hB:B≤base)
  (hs:w.ownsRow base 3 1 (.slice a (m q) c) (m q) (ics (f q) (m q))) (hlv:∀ g,v.ownBlock=some g→g<base) (hlr:∀ i g,i<q→blk (ra i)=some g→g<base) (ob:Obj) (hgrow:(w.alloc ob).grownBy w5 v.ownBlock)
  (hbk:v'.ownBlock=v.ownBlock∨v'.ownBlock=some (w.alloc ob).heap.size) (hown:w5.ownsRow B 24 1 v' (q+1) (rowCells ra m rc q ++ [.slice a (m q) c])) :
  RowsIn B w5 (q+1) v' (setN ra q a) (setN rc q c) m f:=by
 have hnew:∀ g,blk a=some g→base≤g∧g<w.heap.size:=fun g e=>hs.lt g (by rw [ownBlock_blk];exact e)
 have hal:(w.alloc ob).heap.size=w.heap.size+1:=by simp
 have hltr:∀ i g,i<q→blk (ra i)=some g→g<w.heap.size:=fun i g hi e=>((G.row i hi).lt g (by rw [ownBlock_blk];exact e)).2
 have hv':∀ g,v'.ownBlock=some g→v.ownBlock=some g∨g=w.heap.size+1:=fun g e=>by
  rcases hbk with h | h
  ·left;rw [←h];exact e
  ·right;rw [h,hal] at e;exact (Option.some.inj e).symm
 refine⟨by rw [←rowCells_succ];exact hown,fun i hi=>?_,fun i g hi e e2=>?_,fun i j g hij hj e e2=>?_⟩
 ·by_cases h:i=q
  ·subst h
   rw [setN_self,setN_self]
   refine ((own_base hs hB).alloc ob).kept hgrow ?_
   rw [ownBlock_blk]
   rcases hbb:blk a with _ | g
   ·exact .inl rfl
   ·right;intro e;have:=hlv g e.symm;have:=hnew g hbb;omega
  ·rw [setN_ne _ _ h,setN_ne _ _ h]
   have hi':i<q:=by omega
   refine ((G.row i hi').alloc ob).kept hgrow ?_
   rw [ownBlock_blk]
   rcases hbb:blk (ra i) with _ | g
   ·exact .inl rfl
   ·right;intro e;exact G.far i g hi' hbb e.symm
 ·by_cases h:i=q
  ·subst h
   rw [setN_self] at e
   have h1:=hnew g e
   rcases hv' g e2 with h2 | h2
   ·have:=hlv g h2;omega
   ·omega
  ·rw [setN_ne _ _ h] at e
   have hi':i<q:=by omega
   have h1:=hltr i g hi' e
   rcases hv' g e2 with h2 | h2
   ·exact G.far i g hi' e h2
   ·omega
 ·have hi:i<q:=by omega
  rw [setN_ne _ _ (by omega)] at e
  by_cases h:j=q
  ·subst h
   rw [setN_self] at e2
   have h1:=hlr i g hi e
   have h2:=hnew g e2
   omega
  ·rw [setN_ne _ _ h] at e2
   exact G.apart i j g hij (by omega) e e2
theorem own_setFar {w:World} {base e s n:Nat} {v:Value} {xs:List Value} (h:w.ownsRow base e s v n xs) {b o:Nat} (hb:b<base) (u:Value):(w.setCell ⟨b,o,none⟩ u).ownsRow base e s v n xs:=
 h.kept (row:=some b) ⟨rfl,rfl,rfl,by simp [World.setCell],fun k _ hk=>Below.heap_setCell _ _ _ _ (fun e=>hk (by rw [e]))⟩ (.inr (fun e=>by have:=(h.lt b e).1;omega))
theorem RowsIn.base {B B':Nat} {w:World} {q:Nat} {v:Value} {ra:Nat→Option Addr} {rc m:Nat→Nat} {f:Nat→Nat→Int} (G:RowsIn B' w q v ra rc m f) (h:B≤B'):RowsIn B w q v ra rc m f:=
 ⟨own_base G.own h,fun i hi=>own_base (G.row i hi) h,G.far,G.apart⟩
theorem own_some {w:World} {base e n:Nat} {a:Option Addr} {c:Nat} {xs:List Value} (h:w.ownsRow base e 1 (.slice a n c) n xs) (hn:0<n):∃ g,a=some ⟨g,0,none⟩∧base≤g∧∀ j u,xs[j]? = some u→w.cell? ⟨g,j,none⟩=some u:=by
 rcases h.2 with ⟨_,e⟩ | ⟨g,cap,cur,hv,hbg,_⟩
 ·omega
 ·injection hv with e1 e2 e3
  subst e1
  refine⟨g,rfl,hbg,fun j u hu=>?_⟩
  have:=h.cells (g:=g) rfl j u hu
  rw [add_at,Nat.zero_add] at this;exact this
def mkF (n:Nat) (F G:Nat→Bool) (r i:Nat):Bool:=F i || (G i && decide (rankF G i<r))
end Go.Proofs.YtgmopcncbpdniaaGreat
namespace Go.Proofs.YtgmopcncbpdniaaGreat
open Go.RowKit
attribute [local go_sem ↓] Go.wp_at_zero Go.wp_at_succ
set_option maxHeartbeats 8000000 in
set_option maxRecDepth 100000 in
theorem rounds_any (b n:Nat) (cash:Nat→Int) (d:Nat→Nat→Int) (vc vd vt:Value) (ps:(Nat→Bool)→Nat→Rat) (w:World) (hm:IsMkt w b n cash d vc vd vt) (h0:0<n) (hn:n≤8) (hR:Rng n cash d) (hd:∀ i j,0≤d i j) (hps:PsOK n cash d ps) :
  Calls Tryz.prog 39 #[.pointer (some ⟨b,0,none⟩)] w fun e w'=>∃ q va vk ra rc P,e = .returned (.tuple #[.slice va q vk,.slice (some ⟨P,0,none⟩) n n])∧q≤n∧(∀ r,r<q→0<rwM n cash d ps r)∧rwM n cash d ps q=0∧
   RowsIn w.heap.size w' q (.slice va q vk) ra rc (rwM n cash d ps) (rwF n cash d ps)∧RatRow w' P n (PS n cash d ps q) 200∧Below w.heap.size w w':=by
 have HM:=Lib.hid hm
 have HR:=Lib.hid hR
 have HD:=Lib.hid hd
 have HPS:=Lib.hid hps
 obtain⟨c0,-,-,c3,-,-,⟨ta,tb,t_o,tc,rfl,hts⟩,hlt⟩:=hm
 have HTS:=Lib.hid hts
 have keepS:Hid (∀ w',Below w.heap.size w w'→w'.cell? ⟨b,0,none⟩=some (.int .i64 (n:Nat))∧w'.cell? ⟨b,3,none⟩=some (.slice ta n tc)):=
  Lib.hid (fun w' hb=>⟨bel1 hb c0 hlt,bel1 hb c3 hlt⟩)
 obtain⟨i0,hi,hz0,hz1,hz2⟩:=info_parts infoI
 obtain⟨j0,hj,hy0,hy1,hy2⟩:=info_parts infoM
 have hmk:=mkBn n (by omega)
 have heq1:=eql_nil_some
 have heq2:=eql_nil_none
 have R1:=Lib.hid ((World.rowIs_made w (.bool false) n 4).congr (g:=bF (fun _=>false)) (fun i hi=>rfl))
 have R2:=Lib.hid ((World.rowIs_made (w.alloc (.cells (madeCells #[.bool false] n) 4)) (.bool false) n 4).congr (g:=bF (fun _=>false)) (fun i hi=>rfl))
 have KB2:=Lib.hid (boxes2 w (.cells (madeCells #[.bool false] n) 4) (.cells (madeCells #[.bool false] n) 4))
 clear hR hd hps hts c3
 go_enter Tryz.func39,Tryz.ntmps39
 go_wp2
 go_cut [4,5] (fun v4 v5 wx=>∃ fb nb:Nat,v4 = .slice (some ⟨fb,0,none⟩) n n∧v5 = .slice (some ⟨nb,0,none⟩) n n∧Hid (wx.rowIs fb 4 n (bF (fun _=>false)))∧Hid (wx.rowIs nb 4 n (bF (fun _=>false)))∧fb≠nb∧w.heap.size≤fb∧w.heap.size≤nb∧Hid (Below w.heap.size w wx))
 case first=>
  go_region
  all_goals
   go_wp2_with fail
   go_meet
   case rel=>
    first
    | exact⟨w.heap.size,w.heap.size+1,rfl,by simp,Lib.hid ((R1.out.alloc _).drew),Lib.hid (by have:=R2.out.drew;simpa using this),by omega,by omega,by omega,Lib.hid KB2.out.drew⟩
    | exact⟨w.heap.size+1,w.heap.size,by simp,rfl,Lib.hid (by have:=R2.out.drew;simpa using this),Lib.hid ((R1.out.alloc _).drew),by omega,by omega,by omega,Lib.hid KB2.out.drew⟩
 case rest=>
  obtain⟨fb,nb,rfl,rfl,OF,ON,hne,hfb,hnb,KW⟩:=hcut
  clear c0 R1 R2 KB2
  obtain⟨wb,rfl⟩:∃ wb:World,wb=wc:=⟨_,rfl⟩
  have HFB:=Lib.hid OF.out.lt
  have HNB:=Lib.hid ON.out.lt
  have HWB:=Lib.hid KW.out.size
  have G0:Hid (RowsIn wb.heap.size wb 0 (.slice none 0 0) (fun _=>none) (fun _=>0) (rwM n cash d ps) (rwF n cash d ps)):=Lib.hid (RowsIn.start (World.ownsRow_nil _ _ _ _))
  have OF:Hid (wb.rowIs fb 4 n (bF (FS n cash d ps 0))):=OF
  go_wp2
  go_loopw [6,7,8,9,11,30,63,64,65] (fun v6 v7 v8 v9 v11 v30 v63 v64 v65 wr=>∃ q:Nat,Hid (∀ r,r<q→0<rwM n cash d ps r)∧Hid (q≤rankF (FS n cash d ps q) n)∧∃ va vk ra rc,v6 = .slice va q vk∧Hid (RowsIn wb.heap.size wr q (.slice va q vk) ra rc (rwM n cash d ps) (rwF n cash d ps))∧
   Hid (wr.rowIs fb 4 n (bF (FS n cash d ps q)))∧Hid (wr.rowIs nb 4 n (bF (fun _=>false)))∧Hid (Below w.heap.size w wr)∧Hid (wb.heap.size≤wr.heap.size)) (fun v6 _ _ _ _ _ _ _ _ _=>match v6 with | .slice _ q _=>n+1 - q | _=>0)
  case atStart=>exact⟨0,Lib.hid (fun r hr=>by omega),Lib.hid (Nat.zero_le _),none,0,_,_,rfl,G0,OF,ON,KW,Lib.hid (Nat.le_refl _)⟩
  case round=>
   clear G0 OF ON KW
   obtain⟨q,HQ,HQR,va,vk,ra,rc,rfl,G,OF,ON,KW,HWW⟩:=hrel
   obtain⟨x,hx⟩:=ps_rdy HPS.out HR.out HD.out q
   have HRD:=Lib.hid hx
   clear hx
   have HMr:=Lib.hid (HM.out.mono KW.out (Nat.le_refl _))
   go_wp2_with (first
    | (go_at_call 71;go_loud ((with_reducible refine (solve_any b n cash d _ _ _ (FS n cash d ps q) (fun _=>false) fb n nb n x 25000000 200 _ HMr.out h0 hn HR.out (bls_of OF.out) (bls_of ON.out) HRD.out.piv HRD.out.siz (by omega) (by omega) HRD.out.res HRD.out.small (by omega)).mono ?_);rintro e w1 ⟨P,rfl,PR1,hPw,hb1⟩;have PR:Hid (RatRow w1 P n (PS n cash d ps q) 200):=Lib.hid (PR1.congr (fun j hj _=>⟨trivial,(HRD.out.pay j).symm⟩));have G:=Lib.hid (G.out.below hb1);have OF:=Lib.hid (rowIs_below OF.out hb1 OF.out.lt);have ON:=Lib.hid (rowIs_below ON.out hb1 ON.out.lt);have KW:=Lib.hid (KW.out.trans (hb1.mono KW.out.size));have HWW:=Lib.hid (Nat.le_trans HWW.out hb1.size);clear PR1 hPw hb1;have d0:=(keepS.out _ KW.out).1)))
   obtain⟨ws,rfl⟩:∃ ws:World,ws=w1:=⟨_,rfl⟩
   have VS0:=Lib.hid (Below.refl ws.heap.size ws)
   have HOL:=Lib.hid OF.out.lt
   have HWS:=Lib.hid KW.out.size
   clear d0
   go_loopw [8,9,30] (fun v8 v9 v30 wi=>∃ i:Nat,i≤n∧v30 = .int .i64 (i:Nat)∧∃ na nk,v8 = .slice na (rankF (NW n cash d ps q) i) nk∧Hid (wi.ownsRow ws.heap.size 3 1 (.slice na (rankF (NW n cash d ps q) i) nk) (rankF (NW n cash d ps q) i) (ics (rwF n cash d ps q) (rankF (NW n cash d ps q) i)))∧
    Hid (rankF (NW n cash d ps q) i=0→na=none∧nk=0)∧Hid (Below ws.heap.size ws wi)) (fun _ _ v30 _=>n - (intOf v30).toNat)
   case atStart=>exact⟨0,by omega,rfl,none,0,rfl,Lib.hid (World.ownsRow_nil _ _ _ _),Lib.hid (fun _=>⟨rfl,rfl⟩),VS0⟩
   case round=>
    clear VS0
    obtain⟨i,hin,rfl,na,nk,rfl,NO,HNN,VL⟩:=hrel
    by_cases h:i<n
    ·have e1:decide ((i:Int)<(n:Int))=true:=by simpa using h
     have e1n:decide (i<n)=true:=by simpa using h
     have ib:=fun W=>ixB fb n n i h W
     have ixt:=fun W=>ixI HTS.out i tc h W
     obtain⟨Ti,hTi⟩:∃ Ti,Ti=sumF (d i) n:=⟨_,rfl⟩
     have qt:=(HTS.out.mono KW.out (Nat.le_refl _)).cell i h
     simp only [ic] at qt
     rw [←hTi] at qt
     have HQT:=Lib.hid qt
     have HQL:=Lib.hid ((HTS.out.mono KW.out (Nat.le_refl _)).lt h0)
     have HTi:=Lib.hid hTi
     have hTr:=HR.out.tot i h
     rw [←hTi] at hTr
     clear hTi qt
     have HFI:=Lib.hid (OF.out.cell h)
     obtain⟨wi,rfl⟩:∃ wi:World,wi=wr:=⟨_,rfl⟩
     have KWi:=Lib.hid (KW.out.trans (VL.out.mono KW.out.size))
     have PRi:=Lib.hid (PR.out.below VL.out (Nat.le_refl _))
     have keepR:Hid (∀ w',Below wi.heap.size wi w'→w'.cell? ⟨fb,i,none⟩=some (.bool (FS n cash d ps q i))∧w'.cell? ⟨b,3,none⟩=some (.slice ta n tc)∧w'.cell? ⟨tb,t_o+i,none⟩=some (.int .i64 Ti)):=
      Lib.hid (fun w' hb=>⟨bel1 hb (bel1 VL.out HFI.out HOL.out) (by have:=VL.out.size;have:=HOL.out;omega),bel1 hb (keepS.out _ KWi.out).2 (by have:=HWS.out;have:=VL.out.size;omega),bel1 hb (bel1 VL.out HQT.out HQL.out) (by have:=VL.out.size;have:=HQL.out;omega)⟩)
     have HCS:Hid (0≤cash i∧cash i≤100000):=Lib.hid (by have:=HR.out.csh i h;omega)
     have HDS:Hid (∀ j,j<n→0≤d j i∧d j i≤1000∧0≤sumF (d j) n∧sumF (d j) n≤100000):=Lib.hid (fun j hj=>⟨(HR.out.deb j i hj h).1,(HR.out.deb j i hj h).2,(HR.out.tot j hj).1,(HR.out.tot j hj).2⟩)
     go_wp2
     go_cut [53] (fun v53 wx=>v53 = .bool (NW n cash d ps q i)∧Hid (Below wi.heap.size wi wx))
     case first=>
      have VL0:=Lib.hid (Below.refl wi.heap.size wi)
      have VL:=Lib.hid VL0.out.drew
      rcases hFi:FS n cash d ps q i with _ | _
      ·have HNW:Hid (decide (cmpQ (hasQ n cash d (PS n cash d ps q) i) ((Ti:Int):Rat)<0)=NW n cash d ps q i):=Lib.hid (by rw [cmpQ_lt,nw_iff,hFi,HTi.out];simp [hasQ_eq,totQ];exact decide_eq_decide.2 Iff.rfl)
       rw [hFi] at keepR
       clear hFi
       go_region_held3 (fun w'=>w'.cell? ⟨fb,i,none⟩=some (.bool false)∧w'.cell? ⟨b,3,none⟩=some (.slice ta n tc)∧w'.cell? ⟨tb,t_o+i,none⟩=some (.int .i64 Ti))
        (first | (with_reducible exact keepR.out _ VL0.out) | (with_reducible exact keepR.out _ VL.out))
        (first
        | (go_at_call 51;(with_reducible refine (has_any b n i cash d _ _ _ _ (HM.out.mono (KWi.out.trans (VL.out.mono KWi.out.size)) (Nat.le_refl _)) h hn HDS.out HCS.out P 0 n (PS n cash d ps q) 200 (PRi.out.below VL.out (Nat.le_refl _)).rats (by omega) (by omega)).mono ?_);rintro e wa ⟨ra',rfl,hra,hba⟩;obtain⟨sa,aa,na',ea,ba,ma,da,rfl,KH⟩:=hra.shape;clear hra;(try have KT:=Lib.hid (KT.out.mono hba (Nat.le_refl _)));have VL:=Lib.hid (VL.out.trans (hba.mono VL.out.size)))
        | (go_at_call 59;(with_reducible refine (rat_whole Ti (by omega) (by omega) _).mono ?_);rintro e wt ⟨rt,rfl,hrt,hbt⟩;obtain⟨st,at_,nt,et,bt,mt,dt,rfl,KT⟩:=hrt.shape;clear hrt;(try have KH:=Lib.hid (KH.out.mono hbt (Nat.le_refl _)));have VL:=Lib.hid (VL.out.trans (hbt.mono VL.out.size)))
        | (go_at_call 62;(with_reducible refine (rat_cmp_val _ _ (hasQ n cash d (PS n cash d ps q) i) ((Ti:Int):Rat) (512*(200+1)) _ _ KH.out (KT.out.le (by omega)) (by omega) rfl).mono ?_);rintro e wc ⟨rfl,hbc⟩;have VL:=Lib.hid (VL.out.trans (hbc.mono VL.out.size))))
       all_goals
        go_wp2_with fail
        go_meet
        case rel=>exact⟨by rw [HNW.out],VL⟩
      ·have HNW:Hid (NW n cash d ps q i=false):=Lib.hid (by rw [nw_iff,hFi];rfl)
       rw [hFi] at keepR
       clear hFi
       have f0:=(keepR.out _ VL0.out).1
       go_quiet (fail)
       all_goals
        go_wp2_with fail
        go_meet
        case rel=>exact⟨by rw [HNW.out],Lib.hid (VL0.out.trans ((Drawn.of _ _).below _))⟩
     case rest=>
      obtain⟨rfl,VL2⟩:=hcut
      clear keepR HFI HQT HQL HCS HDS ib ixt
      have NO:=Lib.hid (own_kept NO.out VL2.out)
      have VL:=Lib.hid (VL.out.trans (VL2.out.mono VL.out.size))
      clear VL2 PRi KWi
      rcases hNi:NW n cash d ps q i with _ | _
      ·have hrk:rankF (NW n cash d ps q) (i+1)=rankF (NW n cash d ps q) i:=by rw [rankF_succ,hNi];simp
       have HRK:=Lib.hid hrk
       clear hrk
       go_wp2
       go_roundw
       case rel=>exact⟨i+1,by omega,by go_num,na,nk,by rw [HRK.out],Lib.hid (by rw [HRK.out];exact NO.out),Lib.hid (by rw [HRK.out];exact HNN.out),VL⟩
       case measure=>simp [intOf];omega
      ·have hrk:rankF (NW n cash d ps q) (i+1)=rankF (NW n cash d ps q) i+1:=by rw [rankF_succ,hNi];simp
       have HRK:=Lib.hid hrk
       have hle:rankF (NW n cash d ps q) i≤i:=rankF_le _ i
       have HFR:Hid (rwF n cash d ps q (rankF (NW n cash d ps q) i)=(i:Int)):=Lib.hid (by unfold rwF frN;rw [(frL_rank (NW n cash d ps q) n i h hNi).2])
       obtain⟨rk,hrk2⟩:∃ rk,rk=rankF (NW n cash d ps q) i:=⟨_,rfl⟩
       rw [←hrk2] at NO HFR HRK hle
       rw [←hrk2]
       clear hrk hrk2 HNN
       have HA3:Hid (ws.heap.size≤(wc.alloc (.cells #[.int .i64 (i:Int)] 3)).heap.size):=Lib.hid (by have:=VL.out.size;simp;omega)
       go_wp2_with (first
        | (at_builtin;refine wpList_append_own_at _ rfl (.tmp 54) (.tmp 56) 24 rfl ws.heap.size 3 i0 (.int .i64 0) 1 8 Tryz.underlying24 hi hz0 hz1 hz2 rfl (by decide) (.slice na rk nk) rk (ics (rwF n cash d ps q) rk) rfl (NO.out.alloc _) ⟨wc.heap.size,0,none⟩ 1 1 [.int .i64 (i:Int)] rfl rfl (new1 _ _ _) (one1 _ rfl) (by unfold maxLen;omega) (by omega) HA3.out ?_;intro v' w7 hown hgrow _ _;rw [←HFR.out,ics_succ] at hown;obtain⟨na',nk',rfl⟩:=own_shape hown;have VL7:=Lib.hid ((VL.out.alloc VL.out.size (.cells #[.int .i64 (i:Int)] 3)).grown hgrow HA3.out (fun kk e=>((NO.out.alloc (.cells #[.int .i64 (i:Int)] 3)).lt kk e).1));have NO7:=Lib.hid hown;clear hown hgrow))
       go_roundw
       case rel=>exact⟨i+1,by omega,by go_num,na',nk',by rw [HRK.out],Lib.hid (by rw [HRK.out];exact NO7.out),Lib.hid (by rw [HRK.out];exact fun e=>by omega),VL7⟩
       case measure=>simp [intOf];omega
    ·obtain rfl:n=i:=by omega
     have e1:decide ((n:Int)<(n:Int))=false:=by simp
     obtain⟨M,hM⟩:∃ M,M=rankF (NW n cash d ps q) n:=⟨_,rfl⟩
     have HMM:Hid (M=rwM n cash d ps q):=Lib.hid hM
     rw [←hM] at NO HNN
     rw [←hM]
     have hMn:M≤n:=by rw [hM];exact rankF_le _ n
     have HM1:=Lib.hid hM
     clear hM
     have HQN:Hid (q≤n):=Lib.hid (Nat.le_trans HQR.out (rankF_le _ n))
     have HLV:=Lib.hid (fun g e=>(G.out.own.lt g e).2)
     have HLR:Hid (∀ i g,i<q→blk (ra i)=some g→g<ws.heap.size):=Lib.hid (fun i g hi e=>((G.out.row i hi).lt g (by rw [ownBlock_blk];exact e)).2)
     have G:=Lib.hid (G.out.below VL.out)
     have OF:=Lib.hid (rowIs_below OF.out VL.out OF.out.lt)
     have ON:=Lib.hid (rowIs_below ON.out VL.out ON.out.lt)
     have KW:=Lib.hid (KW.out.trans (VL.out.mono KW.out.size))
     have PR:=Lib.hid (PR.out.below VL.out (Nat.le_refl _))
     rcases Nat.eq_zero_or_pos M with h0M | h0M
     ·subst h0M
      obtain⟨rfl,rfl⟩:=HNN.out rfl
      go_wp2
      go_ret2
      exact⟨q,va,vk,ra,rc,P,rfl,HQN.out,HQ.out,HMM.out.symm,G.out.base (by have:=HWB.out;omega),PR.out,KW.out⟩
     ·obtain⟨ng,rfl,hng,hnc⟩:=own_some NO.out h0M
      have HNC:=Lib.hid hnc
      have HNG:=Lib.hid hng
      clear hng hnc PR HNN
      have HWV:=Lib.hid VL.out.size
      have OF:Hid (wr.rowIs fb 4 n (bF (mkF n (FS n cash d ps q) (NW n cash d ps q) 0))):=Lib.hid (OF.out.congr (fun i hi=>by unfold bF mkF;simp))
      have HLE:Hid (fb<wb.heap.size∧fb<ws.heap.size):=Lib.hid ⟨HFB.out,HOL.out⟩
      clear VL
      go_wp2
      go_loopw [11,65] (fun v11 v65 wi=>∃ r:Nat,r≤M∧v65 = .int .i64 (r:Nat)∧Hid (RowsIn wb.heap.size wi q (.slice va q vk) ra rc (rwM n cash d ps) (rwF n cash d ps))∧Hid (wi.ownsRow ws.heap.size 3 1 (.slice (some ⟨ng,0,none⟩) M nk) M (ics (rwF n cash d ps q) M))∧
       Hid (wi.rowIs fb 4 n (bF (mkF n (FS n cash d ps q) (NW n cash d ps q) r)))∧Hid (wi.rowIs nb 4 n (bF (fun _=>false)))∧Hid (Below w.heap.size w wi)∧Hid (ws.heap.size≤wi.heap.size)) (fun _ v65 _=>M - (intOf v65).toNat)
      case atStart=>exact⟨0,by omega,rfl,G,NO,OF,ON,KW,HWV⟩
      case round=>
       clear G NO OF ON KW HWV HNC
       obtain⟨r,hrM,rfl,G,NO,OF,ON,KW,HWV⟩:=hrel
       by_cases h:r<M
       ·have e2:decide ((r:Int)<(M:Int))=true:=by simpa using h
        have e2n:decide (r<M)=true:=by simpa using h
        obtain⟨fi,hfi⟩:∃ fi,fi=frN (NW n cash d ps q) n r:=⟨_,rfl⟩
        have hsp:=frL_spec (NW n cash d ps q) n r (by rw [←HM1.out];exact h)
        have HFI:Hid (NW n cash d ps q fi=true∧rankF (NW n cash d ps q) fi=r):=Lib.hid (by rw [hfi];exact⟨hsp.1,hsp.2.2⟩)
        have hfin:fi<n:=by rw [hfi];exact hsp.2.1
        obtain⟨ng2,hng2,_,hnc2⟩:=own_some NO.out h0M
        have hgg:ng2=ng:=by injection hng2 with e;injection e with e;exact e.symm
        subst hgg
        have cr:=hnc2 r _ (ics_get _ M r h)
        have er:ic (rwF n cash d ps q) r = .int .i64 (fi:Int):=by unfold ic rwF;rw [←hfi]
        rw [er] at cr
        have HFE:=Lib.hid hfi
        have ixn:∀ W,(Instr.indexAt 24 (.slice (some ⟨ng2,0,none⟩) M nk) (.int .i64 (r:Int))).run Tryz.prog W = .ok (.pointer (some ⟨ng2,r,none⟩)) W:=fun W=>by
         have h9:=run_indexAt_opt 24 ints_s ints_z (some ⟨ng2,0,none⟩) ng2 0 M nk (fun _=>rfl) .i64 r (by omega) (by omega) W
         simpa using h9
        have ixf:=fun W=>ixB fb n n fi hfin W
        have cf:=OF.out.cell hfin
        have ff:=OF.out.frozen fi
        simp only [bF] at cf
        clear hfi hsp hng2 hnc2 er
        go_wp2
        go_roundw
        case rel=>
         refine⟨r+1,by omega,by go_num,Lib.hid (G.out.setFar HLE.out.1 _),Lib.hid (own_setFar NO.out HLE.out.2 _),Lib.hid ((OF.out.set fi _).congr (fun i hi=>?_)),Lib.hid (ON.out.setOther (by exact fun e=>hne e.symm) _),Lib.hid (KW.out.setCell hfb _),Lib.hid (by simp only [World.setCell,Array.size_modify];exact HWV.out)⟩
         unfold bF mkF
         by_cases ei:i=fi
         ·subst ei
          rw [if_pos rfl];simp [HFI.out.1,HFI.out.2]
         ·rw [if_neg ei]
          by_cases hNi:NW n cash d ps q i=true
          ·have h2:rankF (NW n cash d ps q) i≠r:=fun e=>ei (by
            have h3:=(frL_rank (NW n cash d ps q) n i hi hNi).2
            rw [HFE.out];unfold frN;rw [←e,h3])
           by_cases h4:rankF (NW n cash d ps q) i<r
           ·simp [hNi,h4,show rankF (NW n cash d ps q) i<r+1 by omega]
           ·simp [hNi,h4,show ¬ rankF (NW n cash d ps q) i<r+1 by omega]
          ·simp [hNi]
        case measure=>simp [intOf];omega
       ·obtain rfl:M=r:=by omega
        have e2:decide ((M:Int)<(M:Int))=false:=by simp
        have hqn:=HQN.out
        have HA3:Hid (wb.heap.size≤(wr.alloc (.cells #[.slice (some ⟨ng,0,none⟩) M nk] 24)).heap.size):=Lib.hid (by have:=HWV.out;have:=HWW.out;simp;omega)
        go_wp2_with (first
         | (at_builtin;go_loud (refine wpList_append_own_at _ rfl (.tmp 73) (.tmp 75) 25 rfl wb.heap.size 24 j0 (.slice none 0 0) 1 24 Tryz.underlying25 hj hy0 hy1 hy2 rfl (by decide) (.slice va q vk) q (rowCells ra (rwM n cash d ps) rc q) rfl (G.out.own.alloc _) ⟨wr.heap.size,0,none⟩ 1 1 [.slice (some ⟨ng,0,none⟩) M nk] rfl rfl (new1 _ _ _) (one1 _ rfl) (by unfold maxLen;omega) (by omega) HA3.out ?_;intro v' w7 hown hgrow _ hblk;rw [HMM.out] at hown;have NO2:Hid (wr.ownsRow ws.heap.size 3 1 (.slice (some ⟨ng,0,none⟩) (rwM n cash d ps q) nk) (rwM n cash d ps q) (ics (rwF n cash d ps q) (rwM n cash d ps q))):=Lib.hid (by rw [←HMM.out];exact NO.out);obtain⟨va',vk',rfl⟩:=own_shape hown;have HGR:=Lib.hid hgrow;have G7:=Lib.hid (G.out.pushR HWW.out NO2.out HLV.out HLR.out _ hgrow hblk hown);have KW7:=Lib.hid ((KW.out.alloc KW.out.size (.cells #[.slice (some ⟨ng,0,none⟩) M nk] 24)).grown hgrow (by have:=KW.out.size;simp;omega) (fun kk e=>by have h1:=((G.out.own.alloc (.cells #[.slice (some ⟨ng,0,none⟩) M nk] 24)).lt kk e).1;have h2:=HWB.out;omega));clear hown hgrow hblk)))
        have OF7:Hid (w7.rowIs fb 4 n (bF (FS n cash d ps (q+1)))):=Lib.hid (((OF.out.alloc _).of_block (HGR.out.block fb (by have:=OF.out.lt;simp;omega) (fun e=>by have:=(G.out.own.lt fb e.symm).1;have:=HLE.out.1;omega))).congr (fun i hi=>by
         unfold bF mkF
         rw [fs_succ]
         by_cases hNi:NW n cash d ps q i=true
         ·have h2:=(frL_rank (NW n cash d ps q) n i hi hNi).1
          rw [←HM1.out] at h2
          simp [hNi,h2]
         ·simp [hNi]))
        have ON7:Hid (w7.rowIs nb 4 n (bF (fun _=>false))):=Lib.hid ((ON.out.alloc _).of_block (HGR.out.block nb (by have:=ON.out.lt;simp;omega) (fun e=>by have:=(G.out.own.lt nb e.symm).1;have:=HNB.out;omega)))
        have HW7:Hid (wb.heap.size≤w7.heap.size):=Lib.hid (Nat.le_trans HA3.out HGR.out.size)
        have HQ7:Hid (∀ r,r<q+1→0<rwM n cash d ps r):=Lib.hid (fun r hr=>by
         by_cases e:r=q
         ·rw [e,←HMM.out];exact h0M
         ·exact HQ.out r (by omega))
        have HQR7:Hid (q+1≤rankF (FS n cash d ps (q+1)) n):=Lib.hid (by rw [fs_rank,←HM1.out];have:=HQR.out;omega)
        go_roundw
        case rel=>exact⟨q+1,HQ7,HQR7,va',vk',_,_,rfl,G7,OF7,ON7,KW7,HW7⟩
        case measure=>simp only;omega
end Go.Proofs.YtgmopcncbpdniaaGreat
namespace Go.Proofs.YtgmopcncbpdniaaGreat
open Go.RowKit
attribute [local go_sem ↓] Go.wp_at_zero Go.wp_at_succ
theorem dL_debts:Debts 2 (fun _=>2) dL:=⟨by omega,by omega,fun i hi=>⟨rfl,by unfold dL;rw [if_neg (by omega),if_neg (by omega)],fun j _=>⟨(dL_range i j hi).1,(dL_range i j hi).2.1⟩⟩⟩
theorem cashL_range:∀ i,i<2→0≤cashL i∧cashL i≤1000:=fun i _=>by unfold cashL;split <;> omega
def payN (j:Nat):Nat:=if j=0 then 3 else 2
end Go.Proofs.YtgmopcncbpdniaaGreat
namespace Go.Proofs.YtgmopcncbpdniaaGreat
open Go.RowKit
attribute [local go_sem ↓] Go.wp_at_zero Go.wp_at_succ
theorem rng_of {n:Nat} {cash:Nat→Int} {m:Nat→Nat} {d:Nat→Nat→Int} (hD:Debts n m d) (hC:∀ i,i<n→0≤cash i∧cash i≤1000) (hd:∀ i j,0≤d i j):Rng n cash d:=by
 refine⟨fun i j hi hj=>(hD.2.2 i hi).2.2 j hj,fun i hi=>?_,hC⟩
 have h8:n≤8:=hD.2.1
 have h2:∀ k,k≤n→sumF (d i) k≤1000*(k:Int):=by
  intro k
  induction k with
  | zero=>intro _;simp [sumF]
  | succ k ih=>
   intro hk
   have h3:=ih (by omega)
   have h4:=((hD.2.2 i hi).2.2 k (by omega)).2
   simp only [sumF]
   omega
 have h3:=h2 n (Nat.le_refl _)
 exact⟨sumF_nn (hd i) n,by omega⟩
theorem pay_maxD {n:Nat} {cash:Nat→Int} {d:Nat→Nat→Int} {ps:(Nat→Bool)→Nat→Rat} (hR:Rng n cash d) (hn:n≤8) (hd:∀ i j,0≤d i j) (hps:PsOK n cash d ps) (q:Nat):∀ j,j<n→MaxD (PS n cash d ps q j).num.natAbs∧MaxD (PS n cash d ps q j).den:=fun j hj=>by
 obtain⟨x,hx⟩:=ps_rdy hps hR hd q
 have h:=pay_small hR hn hd (rnd_all hps hR hd q).nc hx.sol j hj
 exact⟨⟨Nat.lt_of_le_of_lt h.2.1 bd_ten⟩,⟨Nat.lt_of_le_of_lt h.2.2 bd_ten⟩⟩
structure Last (n:Nat) (cash:Nat→Int) (d:Nat→Nat→Int) (ps:(Nat→Bool)→Nat→Rat) (q:Nat):Prop where
 le:q≤n
 pos:∀ r,r<q→0<rwM n cash d ps r
 zero:rwM n cash d ps q=0
set_option maxHeartbeats 1000000 in
theorem clear_any (vc vd:Value) (n:Nat) (cash:Nat→Int) (m:Nat→Nat) (d:Nat→Nat→Int) (ps:(Nat→Bool)→Nat→Rat) (w:World) (hc:Ints w vc n cash) (hm:Mat w vd n m d) (hD:Debts n m d) (hC:∀ i,i<n→0≤cash i∧cash i≤1000) (hd:∀ i j,0≤d i j) (hps:PsOK n cash d ps) :
  Calls Tryz.prog 11 #[vc,vd] w fun e w'=>∃ q va vk ss,e = .returned (.tuple #[.slice va n vk,.int .i64 0])∧Last n cash d ps q∧TxtsOf n (PS n cash d ps q) ss∧Sl w' (.slice va n vk) n (fun j=>.string (ss j))∧Below w.heap.size w w':=by
 have HC:=Lib.hid hc
 have HD:=Lib.hid hm
 have HR:=Lib.hid (rng_of hD hC hd)
 have h0:0<n:=hD.1
 have h8:n≤8:=hD.2.1
 have HDD:=Lib.hid hd
 have HPS:=Lib.hid hps
 have HDB:=Lib.hid hD
 have HCB:=Lib.hid hC
 obtain⟨ca,cb,co,cc,rfl,hcs⟩:=hc
 obtain⟨da,db,d_o,dc,ra,rb,ro,rc,rfl,hdm⟩:=hm
 clear hcs hdm hD hC hd hps
 go_enter Tryz.func11,Tryz.ntmps11
 go_wp2_with (first
  | (go_at_call 38;(with_reducible refine (read_ok _ _ n cash m d _ HC.out HD.out HDB.out HCB.out).mono ?_);rintro e w1 ⟨b,vt,rfl,hm,hb1⟩;have HM:=Lib.hid hm;have KW:=Lib.hid hb1;clear hm hb1)
  | (go_at_call 39;(with_reducible refine (rounds_any b n cash d _ _ _ ps _ HM.out h0 h8 HR.out HDD.out HPS.out).mono ?_);rintro e w2 ⟨q,oa,ok,ora,orc,P,rfl,hq1,hq2,hq3,-,hp,hb2⟩;have HL:Hid (Last n cash d ps q):=Lib.hid ⟨hq1,hq2,hq3⟩;have HP:=Lib.hid hp.rats;have KW:=Lib.hid (KW.out.trans (hb2.mono KW.out.size));clear hp hb2 hq1 hq2 hq3)
  | (go_at_call 40;(with_reducible refine (nums_any P n n _ 200 _ HP.out (by omega) (by omega) (pay_maxD HR.out h8 HDD.out HPS.out q)).mono ?_);rintro e w3 ⟨va,vk,ss,rfl,htx,hv,hb3⟩;have HTX:=Lib.hid htx;have HV:=Lib.hid hv;have KW:=Lib.hid (KW.out.trans (hb3.mono KW.out.size));clear hv hb3 htx))
 go_ret2
 exact⟨q,va,vk,ss,rfl,HL.out,HTX.out,Sl.of_own HV.out (fun i hi=>strL_get ss n i hi),KW.out⟩
set_option maxHeartbeats 1000000 in
theorem fails_any (vc vd:Value) (n:Nat) (cash:Nat→Int) (m:Nat→Nat) (d:Nat→Nat→Int) (ps:(Nat→Bool)→Nat→Rat) (w:World) (hc:Ints w vc n cash) (hm:Mat w vd n m d) (hD:Debts n m d) (hC:∀ i,i<n→0≤cash i∧cash i≤1000) (hd:∀ i j,0≤d i j) (hps:PsOK n cash d ps) :
  Calls Tryz.prog 15 #[vc,vd] w fun e w'=>∃ q va vk,e = .returned (.tuple #[.slice va q vk,.int .i64 0])∧Last n cash d ps q∧Mat w' (.slice va q vk) q (rwM n cash d ps) (rwF n cash d ps)∧Below w.heap.size w w':=by
 have HC:=Lib.hid hc
 have HD:=Lib.hid hm
 have HR:=Lib.hid (rng_of hD hC hd)
 have h0:0<n:=hD.1
 have h8:n≤8:=hD.2.1
 have HDD:=Lib.hid hd
 have HPS:=Lib.hid hps
 have HDB:=Lib.hid hD
 have HCB:=Lib.hid hC
 obtain⟨ca,cb,co,cc,rfl,hcs⟩:=hc
 obtain⟨da,db,d_o,dc,ra,rb,ro,rc,rfl,hdm⟩:=hm
 clear hcs hdm hD hC hd hps
 go_enter Tryz.func15,Tryz.ntmps15
 go_wp2_with (first
  | (go_at_call 38;(with_reducible refine (read_ok _ _ n cash m d _ HC.out HD.out HDB.out HCB.out).mono ?_);rintro e w1 ⟨b,vt,rfl,hm,hb1⟩;have HM:=Lib.hid hm;have KW:=Lib.hid hb1;clear hm hb1)
  | (go_at_call 39;(with_reducible refine (rounds_any b n cash d _ _ _ ps _ HM.out h0 h8 HR.out HDD.out HPS.out).mono ?_);rintro e w2 ⟨q,oa,ok,ora,orc,P,rfl,hq1,hq2,hq3,hg,-,hb2⟩;have HL:Hid (Last n cash d ps q):=Lib.hid ⟨hq1,hq2,hq3⟩;have HG:=Lib.hid hg.mat;have KW:=Lib.hid (KW.out.trans (hb2.mono KW.out.size));clear hg hb2 hq1 hq2 hq3))
 go_ret2
 exact⟨q,oa,ok,rfl,HL.out,HG.out,KW.out⟩
end Go.Proofs.YtgmopcncbpdniaaGreat
