import Derived.Test.YtgmopcncbpdniaaGreatIGen
import Derived.Test.YtgmopcncbpdniaaGreatIGrp3
import Derived.Maps.AppendAt
import Derived.Test.YtgmopcncbpdniaaGreatILive2
set_option linter.unusedVariables false
set_option linter.unusedSimpArgs false
namespace Go.Proofs.YtgmopcncbpdniaaGreat
open Go.RowKit
attribute [local go_sem ↓] Go.wp_at_zero Go.wp_at_succ
theorem mem3:mem 3 10 = [0,1]:=by decide +kernel
theorem mem28:mem 28 10 = [2,3,4]:=by decide +kernel
theorem bal_ok:Balances 5 blF:=⟨by decide,by decide,by decide +kernel,by decide +kernel⟩
def g0F (i:Nat):Int:=i
def g1F (i:Nat):Int:=(i:Int)+2
theorem members3 (w:World):Calls Tryz.prog 77 #[.int .i64 3] w fun e w'=>∃ g cap,e = .returned (.slice (some ⟨g,0,none⟩) 2 cap)∧IsSl w' (some ⟨g,0,none⟩) g 0 cap 2 (ic g0F)∧w.heap.size≤g∧Below w.heap.size w w':=by
  have h:=members_row 3 w (by omega) (by rw [mem3];decide)
  refine Calls.mono (show Calls Tryz.prog 77 #[.int .i64 3] w _ from h) ?_
  rintro e w' ⟨g,cap,he,hs,hg,hb⟩
  rw [mem3] at he hs
  exact⟨g,cap,he,hs.congr (fun i hi=>by
    have hi:i<2:=hi
    have:i=0∨i=1:=by omega
    rcases this with e | e <;> rw [e] <;> rfl),hg,hb⟩
theorem members28 (w:World):Calls Tryz.prog 77 #[.int .i64 28] w fun e w'=>∃ g cap,e = .returned (.slice (some ⟨g,0,none⟩) 3 cap)∧IsSl w' (some ⟨g,0,none⟩) g 0 cap 3 (ic g1F)∧w.heap.size≤g∧Below w.heap.size w w':=by
  have h:=members_row 28 w (by omega) (by rw [mem28];decide)
  refine Calls.mono (show Calls Tryz.prog 77 #[.int .i64 28] w _ from h) ?_
  rintro e w' ⟨g,cap,he,hs,hg,hb⟩
  rw [mem28] at he hs
  exact⟨g,cap,he,hs.congr (fun i hi=>by
    have hi:i<3:=hi
    have:i=0∨i=1∨i=2:=by omega
    rcases this with e | e | e <;> rw [e] <;> rfl),hg,hb⟩
def gvI (q:Nat):Int:=if q=0 then 3 else 28
def gl (q:Nat):Nat:=if q=0 then 2 else 3
def gF (q:Nat):Nat→Int:=if q=0 then g0F else g1F
theorem members_q (q:Nat) (hq:q<2) (w:World):Calls Tryz.prog 77 #[.int .i64 (gvI q)] w fun e w'=>∃ g cap,e = .returned (.slice (some ⟨g,0,none⟩) (gl q) cap)∧IsSl w' (some ⟨g,0,none⟩) g 0 cap (gl q) (ic (gF q))∧w.heap.size≤g∧Below w.heap.size w w':=by
  have:q=0∨q=1:=by omega
  rcases this with e | e
  · subst e;exact members3 w
  · subst e;exact members28 w
def gCells (gg cc:Nat→Nat) (q:Nat):List Value:=(List.range q).map (fun i=>.slice (some ⟨gg i,0,none⟩) (gl i) (cc i))
def setQ (f:Nat→Nat) (i x:Nat):Nat→Nat:=fun j=>if j=i then x else f j
theorem gCells_succ (gg cc:Nat→Nat) (q g cap:Nat):gCells gg cc q ++ [.slice (some ⟨g,0,none⟩) (gl q) cap]=gCells (setQ gg q g) (setQ cc q cap) (q+1):=by
  unfold gCells
  rw [List.range_succ,List.map_append]
  congr 1
  · apply List.map_congr_left
    intro i hi
    have:i<q:=List.mem_range.1 hi
    simp [setQ,show i≠q by omega]
  · simp [setQ]
theorem gCells_get (gg cc:Nat→Nat) (q i:Nat) (h:i<q):(gCells gg cc q)[i]? = some (.slice (some ⟨gg i,0,none⟩) (gl i) (cc i)):=by simp [gCells,h]
structure GR (B:Nat) (w:World) (q:Nat) (v:Value) (gg cc:Nat→Nat):Prop where
  own:w.ownsRow B 24 1 v q (gCells gg cc q)
  row:∀ i,i<q→IsSl w (some ⟨gg i,0,none⟩) (gg i) 0 (cc i) (gl i) (ic (gF i))
  far:∀ i,i<q→v.ownBlock≠some (gg i)
theorem gl_pos (q:Nat):0<gl q:=by unfold gl;split <;> omega
theorem IsSl.grownO {w w':World} {a:Option Addr} {b o c n:Nat} {row:Option Nat} {q:Nat→Value} (h:IsSl w a b o c n q) (hg:w.grownBy w' row) (hne:some b≠row):IsSl w' a b o c n q where
  cap:=h.cap
  nc:=h.nc
  at_:=h.at_
  lt:=fun p=>Nat.lt_of_lt_of_le (h.lt p) hg.size
  cell:=fun i hi=>hg.cell (h.cell i hi) hne
set_option maxHeartbeats 4000000 in
set_option maxRecDepth 100000 in
theorem Groups_live (v : Value) (w : World) (hv : Ints w v 5 blF) :
    Calls Tryz.prog 42 #[v] w fun e w'=>∃ vg,e = .returned (.tuple #[vg,.int .i64 0])∧Mat w' vg 2 (fun i=>if i=0 then 2 else 3) (fun i=>if i=0 then g0F else g1F)∧Below w.heap.size w w':=by
  have HV:=Lib.hid hv
  clear hv
  go_enter Tryz.func42,Tryz.ntmps42
  go_wp2_with (first
    | (go_at_call 75;(with_reducible refine (balanced_any v 5 blF true ⟨fun _=>bal_ok,fun _=>rfl⟩ _ HV.out (by omega)).mono ?_);rintro e w1 ⟨rfl,rfl⟩)
    | (go_at_call 76;(with_reducible refine (groups_live v _ HV.out).mono ?_);rintro e w1 ⟨va,vk,rfl,⟨a,b,o,c,hvv,hs⟩,hb⟩;cases hvv;have HS:=Lib.hid hs;have KW:=Lib.hid hb;clear hs hb))
  obtain⟨i0,hinf,hz0,hz1,hz2⟩:=info_parts infoIs
  have KW0:=Lib.hid (Below.refl w1.heap.size w1)
  have HS:Hid (IsSl w1 va b o vk 2 (ic gvI)):=Lib.hid (HS.out.congr fun i hi=>by
    have:i=0∨i=1:=by omega
    rcases this with e | e <;> rw [e] <;> rfl)
  have hwl:va=some ⟨b,o,none⟩:=HS.out.at_ (by omega)
  go_loopw [4,13] (fun v4 v13 wr=>∃ q:Nat,q≤2∧v13 = .int .i64 (q:Nat)∧∃ va4 vk4 gg cc,v4 = .slice va4 q vk4∧Hid (GR w1.heap.size wr q (.slice va4 q vk4) gg cc)∧Hid (Below w1.heap.size w1 wr)) (fun _ v13 _=>2 - (intOf v13).toNat)
  case atStart=>exact⟨0,by omega,rfl,none,0,fun _=>0,fun _=>0,rfl,Lib.hid ⟨World.ownsRow_nil _ _ _ _,fun i e=>by omega,fun i e=>by omega⟩,KW0⟩
  case round=>
    have KWW:=KW
    clear KW0 KW
    obtain⟨q,hq,rfl,va4,vk4,gg,cc,rfl,G,KW⟩:=hrel
    by_cases h:q<2
    · have hix:=fun W=>ixI HS.out q vk h W
      have hc:=(HS.out.mono KW.out (Nat.le_refl _)).cell q h
      simp only [ic] at hc
      have gq:(q:Int)<2:=by omega
      have HLT:=Lib.hid G.out.own.lt
      have HROW:=Lib.hid G.out.row
      have HFAR:=Lib.hid G.out.far
      have OW:=Lib.hid G.out.own
      clear hwl
      go_wp2_with (first
        | (go_at_call 77;(with_reducible refine (members_q q h _).mono ?_);rintro e w2 ⟨g,cap,rfl,hsl,hg,hb⟩;have SL:=Lib.hid hsl;have KW2:=Lib.hid (KW.out.trans (hb.mono KW.out.size));have HG:=Lib.hid hg;have HB:=Lib.hid hb;have OW:=Lib.hid (own_kept OW.out hb);clear hsl hb hg)
        | (at_builtin;refine wpList_append_own_at _ rfl (.tmp 17) (.tmp 20) 25 rfl w1.heap.size 24 i0 (.slice none 0 0) 1 24 Tryz.underlying25 hinf hz0 hz1 hz2 rfl (by decide) (.slice va4 q vk4) q (gCells gg cc q) rfl (OW.out.alloc _) ⟨w2.heap.size,0,none⟩ 1 1 [.slice (some ⟨g,0,none⟩) (gl q) cap] rfl rfl (new1 w2 (.slice (some ⟨g,0,none⟩) (gl q) cap) 24) (one1 _ rfl) (by unfold maxLen;omega) (by omega) (by have:=KW2.out.size;simp;omega) ?_;intro v' w5 hown hgrow _ hbk;have HOWN:=Lib.hid hown;have HGROW:=Lib.hid hgrow;have HBK:=Lib.hid hbk;obtain⟨va5,vk5,rfl⟩:=own_shape hown;clear hown hgrow hbk))
      go_roundw
      case rel=>
        have hgl:g<w2.heap.size:=SL.out.lt (gl_pos q)
        have hsz:wr.heap.size≤w2.heap.size:=HB.out.size
        refine⟨q+1,by omega,by go_num,va5,vk5,setQ gg q g,setQ cc q cap,rfl,Lib.hid ⟨?_,fun i hi=>?_,fun i hi=>?_⟩,Lib.hid ?_⟩
        · rw [←gCells_succ];exact HOWN.out
        · by_cases e:i=q
          · subst e
            have h1:setQ gg i g i=g:=by simp [setQ]
            have h2:setQ cc i cap i=cap:=by simp [setQ]
            rw [h1,h2]
            exact (SL.out.alloc _).grownO HGROW.out (fun e=>by have:=(HLT.out g e.symm).2;have:=HG.out;omega)
          · have h1:setQ gg q g i=gg i:=by simp [setQ,e]
            have h2:setQ cc q cap i=cc i:=by simp [setQ,e]
            rw [h1,h2]
            exact (((HROW.out i (by omega)).mono HB.out (Nat.le_refl _)).alloc _).grownO HGROW.out (fun e2=>HFAR.out i (by omega) e2.symm)
        · by_cases e:i=q
          · subst e
            have h1:setQ gg i g i=g:=by simp [setQ]
            rw [h1]
            rcases HBK.out with h3 | h3
            · rw [h3];intro e2;have:=(HLT.out g e2).2;have:=HG.out;omega
            · rw [h3];intro e2;have:=Option.some.inj e2;simp at this;omega
          · have h1:setQ gg q g i=gg i:=by simp [setQ,e]
            rw [h1]
            have hgi:=(HROW.out i (by omega)).lt (gl_pos i)
            rcases HBK.out with h3 | h3
            · rw [h3];exact HFAR.out i (by omega)
            · rw [h3];intro e2;have:=Option.some.inj e2;simp at this;omega
        · exact (KW2.out.alloc KW2.out.size _).grown HGROW.out (by have:=KW2.out.size;simp;omega) (fun kk e=>(HLT.out kk e).1)
      case measure=>simp [intOf];omega
    · obtain rfl:q=2:=by omega
      go_wp2
      go_ret2
      obtain⟨a4,b4,o4,c4,hv4,hs4⟩:=Sl.of_own G.out.own (fun i hi=>gCells_get gg cc 2 i hi)
      refine⟨_,rfl,⟨a4,b4,o4,c4,fun i=>some ⟨gg i,0,none⟩,gg,fun _=>0,cc,hv4,⟨hs4,fun i hi=>?_⟩⟩,KWW.out.trans (KW.out.mono KWW.out.size)⟩
      have hr:=G.out.row i hi
      have:i=0∨i=1:=by omega
      rcases this with e | e <;> subst e <;> exact hr
end Go.Proofs.YtgmopcncbpdniaaGreat
namespace Go.Proofs.YtgmopcncbpdniaaGreat
open Go.RowKit
section
variable {B:Nat} {w w':World} {q:Nat} {v:Value} {ra:Nat→Option Addr} {rc m:Nat→Nat} {f:Nat→Nat→Int}
theorem RowsIn.kept (G:RowsIn B w q v ra rc m f) {row:Option Nat} (hg:w.grownBy w' row) (h1:∀ g,v.ownBlock=some g→row≠some g) (h2:∀ i g,i<q→blk (ra i)=some g→row≠some g):RowsIn B w' q v ra rc m f:=by
  refine⟨G.own.kept hg ?_,fun i hi=>(G.row i hi).kept hg ?_,G.far,G.apart⟩
  · rcases h:v.ownBlock with _ | g
    · exact .inl rfl
    · right;intro e;exact h1 g h e.symm
  · rw [ownBlock_blk]
    rcases h:blk (ra i) with _ | g
    · exact .inl rfl
    · right;intro e;exact h2 i g hi h e.symm
theorem RowsIn.alloc (G:RowsIn B w q v ra rc m f) (o:Obj):RowsIn B (w.alloc o) q v ra rc m f:=
  ⟨G.own.alloc o,fun i hi=>(G.row i hi).alloc o,G.far,G.apart⟩
theorem RowsIn.below (G:RowsIn B w q v ra rc m f) (hb:Below w.heap.size w w'):RowsIn B w' q v ra rc m f:=
  ⟨own_kept G.own hb,fun i hi=>own_kept (G.row i hi) hb,G.far,G.apart⟩
theorem RowsIn.lt_row (G:RowsIn B w q v ra rc m f) {i g:Nat} (hi:i<q) (h:blk (ra i)=some g):B≤g∧g<w.heap.size:=(G.row i hi).lt g (by rw [ownBlock_blk];exact h)
theorem RowsIn.push2 (G : RowsIn B w q v ra rc m f) {a : Option Addr} {c : Nat} {w5 : World} {v' : Value} (hs : w.ownsRow B 3 1 (.slice a (m q) c) (m q) (ics (f q) (m q)))
    (hf1:∀ g,blk a=some g→v.ownBlock≠some g) (hf2:∀ i g,i<q→blk (ra i)=some g→blk a≠some g) (ob:Obj) (hgrow:(w.alloc ob).grownBy w5 v.ownBlock)
    (hbk:v'.ownBlock=v.ownBlock∨v'.ownBlock=some (w.alloc ob).heap.size) (hown:w5.ownsRow B 24 1 v' (q+1) (rowCells ra m rc q ++ [.slice a (m q) c])) :
    RowsIn B w5 (q+1) v' (setN ra q a) (setN rc q c) m f:=by
  have hlt:∀ i g,i<q→blk (ra i)=some g→g<w.heap.size:=fun i g hi e=>(G.lt_row hi e).2
  have hnew:∀ g,blk a=some g→g<w.heap.size:=fun g e=>(hs.lt g (by rw [ownBlock_blk];exact e)).2
  have hal:(w.alloc ob).heap.size=w.heap.size+1:=by simp
  have hv':∀ g,v'.ownBlock=some g→v.ownBlock=some g∨g=w.heap.size+1:=fun g e=>by
    rcases hbk with h | h
    · left;rw [←h];exact e
    · right;rw [h,hal] at e;exact (Option.some.inj e).symm
  refine⟨by rw [←rowCells_succ];exact hown,fun i hi=>?_,fun i g hi e e2=>?_,fun i j g hij hj e e2=>?_⟩
  · by_cases h:i=q
    · subst h
      rw [setN_self,setN_self]
      refine (hs.alloc ob).kept hgrow ?_
      rw [ownBlock_blk]
      rcases hbb:blk a with _ | g
      · exact .inl rfl
      · right;intro e;exact hf1 g hbb e.symm
    · rw [setN_ne _ _ h,setN_ne _ _ h]
      have hi':i<q:=by omega
      refine ((G.row i hi').alloc ob).kept hgrow ?_
      rw [ownBlock_blk]
      rcases hbb:blk (ra i) with _ | g
      · exact .inl rfl
      · right;intro e;exact G.far i g hi' hbb e.symm
  · by_cases h:i=q
    · subst h
      rw [setN_self] at e
      have h1:=hnew g e
      rcases hv' g e2 with h2 | h2
      · exact hf1 g e h2
      · omega
    · rw [setN_ne _ _ h] at e
      have hi':i<q:=by omega
      have h1:=hlt i g hi' e
      rcases hv' g e2 with h2 | h2
      · exact G.far i g hi' e h2
      · omega
  · have hi:i<q:=by omega
    rw [setN_ne _ _ (by omega)] at e
    by_cases h:j=q
    · subst h
      rw [setN_self] at e2
      exact hf2 i g hi e e2
    · rw [setN_ne _ _ h] at e2
      exact G.apart i j g hij (by omega) e e2
end
structure MadeS (B:Nat) (w:World) (q k:Nat) (vc vd:Value) (ra:Nat→Option Addr) (rc:Nat→Nat) (cf:Nat→Int) (df:Nat→Nat→Int):Prop where
  cash:w.ownsRow B 3 1 vc q (ics cf q)
  rows:RowsIn B w q vd ra rc (fun _=>k) df
  cd:∀ g,vc.ownBlock=some g→vd.ownBlock≠some g
  cr:∀ i g,i<q→blk (ra i)=some g→vc.ownBlock≠some g
theorem MadeS.push {B : Nat} {w wI wJ wK : World} {q k : Nat} {vc vd vc' vd' : Value} {ra : Nat → Option Addr} {rc : Nat → Nat} {cf : Nat → Int} {df : Nat → Nat → Int} {a : Option Addr} {c : Nat} (G : MadeS B w q k vc vd ra rc cf df) (hB : B ≤ w.heap.size)
    (hb:Below w.heap.size w wI) (hs:wI.ownsRow w.heap.size 3 1 (.slice a k c) k (ics (df q) k)) (o1 o2:Obj)
    (hg1:(wI.alloc o1).grownBy wJ vc.ownBlock) (hbk1:vc'.ownBlock=vc.ownBlock∨vc'.ownBlock=some (wI.alloc o1).heap.size) (ho1:wJ.ownsRow B 3 1 vc' (q+1) (ics cf (q+1)))
    (hg2:(wJ.alloc o2).grownBy wK vd.ownBlock) (hbk2:vd'.ownBlock=vd.ownBlock∨vd'.ownBlock=some (wJ.alloc o2).heap.size) (ho2:wK.ownsRow B 24 1 vd' (q+1) (rowCells ra (fun _=>k) rc q ++ [.slice a k c])) :
    MadeS B wK (q+1) k vc' vd' (setN ra q a) (setN rc q c) cf df:=by
  have hlt:∀ i g,i<q→blk (ra i)=some g→g<w.heap.size:=fun i g hi e=>(G.rows.lt_row hi e).2
  have hnew:∀ g,blk a=some g→w.heap.size≤g∧g<wI.heap.size:=fun g e=>hs.lt g (by rw [ownBlock_blk];exact e)
  have hvc:∀ g,vc.ownBlock=some g→g<w.heap.size:=fun g e=>(G.cash.lt g e).2
  have hvd:∀ g,vd.ownBlock=some g→g<w.heap.size:=fun g e=>(G.rows.own.lt g e).2
  have hal1:(wI.alloc o1).heap.size=wI.heap.size+1:=by simp
  have hal2:(wJ.alloc o2).heap.size=wJ.heap.size+1:=by simp
  have z1:=hb.size
  have z2:=hg1.size
  rw [hal1] at z2
  have hvc':∀ g,vc'.ownBlock=some g→vc.ownBlock=some g∨g=wI.heap.size+1:=fun g e=>by
    rcases hbk1 with h | h
    · left;rw [←h];exact e
    · right;rw [h,hal1] at e;exact (Option.some.inj e).symm
  have hvc2:∀ g,vc'.ownBlock=some g→g<wJ.heap.size:=fun g e=>(ho1.lt g e).2
  have hvd':∀ g,vd'.ownBlock=some g→vd.ownBlock=some g∨g=wJ.heap.size+1:=fun g e=>by
    rcases hbk2 with h | h
    · left;rw [←h];exact e
    · right;rw [h,hal2] at e;exact (Option.some.inj e).symm
  have hR:=((G.rows.below hb).alloc o1).kept hg1 (fun g e e2=>G.cd g e2 e) (fun i g hi e e2=>G.cr i g hi e e2)
  have hS:wJ.ownsRow B 3 1 (.slice a k c) k (ics (df q) k):=((own_base hs hB).alloc o1).kept hg1 (by
    rw [ownBlock_blk]
    rcases hbb:blk a with _ | g
    · exact .inl rfl
    · right;intro e;have:=hvc g e.symm;have:=hnew g hbb;omega)
  have hR2:=hR.push2 (m:=fun _=>k) hS (fun g e e2=>by have:=hvd g e2;have:=hnew g e;omega) (fun i g hi e e2=>by have:=hlt i g hi e;have:=hnew g e2;omega) o2 hg2 hbk2 ho2
  refine⟨(ho1.alloc o2).kept hg2 ?_,hR2,fun g e e2=>?_,fun i g hi e e2=>?_⟩
  · rcases hbb:vc'.ownBlock with _ | g
    · exact .inl rfl
    · right;intro e
      rcases hvc' g hbb with h | h
      · exact G.cd g h e.symm
      · have:=hvd g e.symm;omega
  · rcases hvd' g e2 with h | h
    · rcases hvc' g e with h2 | h2
      · exact G.cd g h2 h
      · have:=hvd g h;omega
    · have:=hvc2 g e;omega
  · by_cases h:i=q
    · subst h
      rw [setN_self] at e
      have h1:=hnew g e
      rcases hvc' g e2 with h2 | h2
      · have:=hvc g h2;omega
      · omega
    · rw [setN_ne _ _ h] at e
      have h1:=hlt i g (by omega) e
      rcases hvc' g e2 with h2 | h2
      · exact G.cr i g (by omega) e h2
      · omega
theorem MadeS.mid {B : Nat} {w wI wJ : World} {q k : Nat} {vc vd : Value} {ra : Nat → Option Addr} {rc : Nat → Nat} {cf : Nat → Int} {df : Nat → Nat → Int} (G : MadeS B w q k vc vd ra rc cf df)
    (hb:Below w.heap.size w wI) (o1:Obj) (hg1:(wI.alloc o1).grownBy wJ vc.ownBlock):RowsIn B wJ q vd ra rc (fun _=>k) df:=
  ((G.rows.below hb).alloc o1).kept hg1 (fun g e e2=>G.cd g e2 e) (fun i g hi e e2=>G.cr i g hi e e2)
def U16s (w:World) (v:Value) (n:Nat) (g:Nat→Nat):Prop:=Sl w v n (fun i=>.int .u16 (g i:Nat))∧∀ i,i<n→g i<65536
theorem u16_s:Tryz.prog.underlying 23=some (.slice (Tryz.prog.elem 23)):=by kernel_rfl
theorem u16_z (W:World):(sizeOf (Tryz.prog.elem 23)).run Tryz.prog W = .ok 1 W:=by kernel_rfl
theorem ixH {w:World} {a:Option Addr} {b o c n:Nat} {g:Nat→Value} (h:IsSl w a b o c n g) (i d:Nat) (hi:i<n) (W:World) :
   (Instr.indexAt 23 (.slice a n d) (.int .i64 (i:Int))).run Tryz.prog W = .ok (.pointer (some ⟨b,o+i,none⟩)) W:=
  run_indexAt_opt 23 u16_s u16_z a b o n d (fun q=>h.at_ q) .i64 i (by omega) (by omega) W
def cashM (lx:Nat) (fx:Nat→Nat) (i:Nat):Int:=if i<lx then ((fx i % 1001:Nat):Int) else 0
def debtM (k ly:Nat) (fy:Nat→Nat) (i j:Nat):Int:=if i*k+j<ly∧i≠j∧0<fy (i*k+j) % 3 then ((fy (i*k+j) / 3 % 1001:Nat):Int) else 0
theorem cashM_range (lx:Nat) (fx:Nat→Nat) (i:Nat):0≤cashM lx fx i∧cashM lx fx i≤1000:=by unfold cashM;split <;> omega
theorem debtM_range (k ly:Nat) (fy:Nat→Nat) (i j:Nat):0≤debtM k ly fy i j∧debtM k ly fy i j≤1000:=by unfold debtM;split <;> omega
theorem debtM_debts (k ly:Nat) (fy:Nat→Nat) (h1:1≤k) (h8:k≤8):Debts k (fun _=>k) (debtM k ly fy):=
  ⟨h1,h8,fun i _=>⟨rfl,by unfold debtM;rw [if_neg (fun h=>h.2.1 rfl)],fun j _=>debtM_range k ly fy i j⟩⟩
end Go.Proofs.YtgmopcncbpdniaaGreat
namespace Go.Proofs.YtgmopcncbpdniaaGreat
open Go.RowKit
attribute [local go_sem ↓] Go.wp_at_zero Go.wp_at_succ
theorem mkBn (n:Nat) (hn:n≤1000) (W:World):(Instr.makeSlice 44 (.int .i64 (n:Nat)) (.int .i64 (n:Nat))).run Tryz.prog W = .ok (.slice (some ⟨W.heap.size,0,none⟩) n n) (W.alloc (.cells (madeCells #[.bool false] n) 4)):=
  run_make_row' (P:=Tryz.prog) 44 4 (.bool false) 1 Tryz.underlying44 infoB rfl .i64 .i64 n (by omega) (by omega) W
def bF (F:Nat→Bool) (i:Nat):Value:=.bool (F i)
theorem bls_of {w:World} {b n:Nat} {F:Nat→Bool} (h:w.rowIs b 4 n (bF F)):Bls w b n F:=⟨fun i hi=>h.cell hi,h.lt⟩
def rwF (n:Nat) (cash:Nat→Int) (d:Nat→Nat→Int) (ps:(Nat→Bool)→Nat→Rat) (q r:Nat):Int:=((frN (NW n cash d ps q) n r:Nat):Int)
def rwM (n:Nat) (cash:Nat→Int) (d:Nat→Nat→Int) (ps:(Nat→Bool)→Nat→Rat) (q:Nat):Nat:=rankF (NW n cash d ps q) n
theorem RowsIn.setFar {B:Nat} {w:World} {q:Nat} {v:Value} {ra:Nat→Option Addr} {rc m:Nat→Nat} {f:Nat→Nat→Int} (G:RowsIn B w q v ra rc m f) {b o:Nat} (hb:b<B) (u:Value):RowsIn B (w.setCell ⟨b,o,none⟩ u) q v ra rc m f:=by
  have hg:w.grownBy (w.setCell ⟨b,o,none⟩ u) (some b):=⟨rfl,rfl,rfl,by simp [World.setCell],fun k _ hk=>Below.heap_setCell _ _ _ _ (fun e=>hk (by rw [e]))⟩
  exact⟨G.own.kept hg (.inr (fun e=>by have:=(G.own.lt b e).1;omega)),fun i hi=>(G.row i hi).kept hg (.inr (fun e=>by have:=((G.row i hi).lt b e).1;omega)),G.far,G.apart⟩
theorem RowsIn.pushR {B base : Nat} {w w5 : World} {q : Nat} {v v' : Value} {ra : Nat → Option Addr} {rc m : Nat → Nat} {f : Nat → Nat → Int} (G : RowsIn B w q v ra rc m f) {a : Option Addr} {c : Nat} (hB : B ≤ base)
    (hs:w.ownsRow base 3 1 (.slice a (m q) c) (m q) (ics (f q) (m q))) (hlv:∀ g,v.ownBlock=some g→g<base) (hlr:∀ i g,i<q→blk (ra i)=some g→g<base) (ob:Obj) (hgrow:(w.alloc ob).grownBy w5 v.ownBlock)
    (hbk:v'.ownBlock=v.ownBlock∨v'.ownBlock=some (w.alloc ob).heap.size) (hown:w5.ownsRow B 24 1 v' (q+1) (rowCells ra m rc q ++ [.slice a (m q) c])) :
    RowsIn B w5 (q+1) v' (setN ra q a) (setN rc q c) m f:=by
  have hnew:∀ g,blk a=some g→base≤g∧g<w.heap.size:=fun g e=>hs.lt g (by rw [ownBlock_blk];exact e)
  have hal:(w.alloc ob).heap.size=w.heap.size+1:=by simp
  have hltr:∀ i g,i<q→blk (ra i)=some g→g<w.heap.size:=fun i g hi e=>((G.row i hi).lt g (by rw [ownBlock_blk];exact e)).2
  have hv':∀ g,v'.ownBlock=some g→v.ownBlock=some g∨g=w.heap.size+1:=fun g e=>by
    rcases hbk with h | h
    · left;rw [←h];exact e
    · right;rw [h,hal] at e;exact (Option.some.inj e).symm
  refine⟨by rw [←rowCells_succ];exact hown,fun i hi=>?_,fun i g hi e e2=>?_,fun i j g hij hj e e2=>?_⟩
  · by_cases h:i=q
    · subst h
      rw [setN_self,setN_self]
      refine ((own_base hs hB).alloc ob).kept hgrow ?_
      rw [ownBlock_blk]
      rcases hbb:blk a with _ | g
      · exact .inl rfl
      · right;intro e;have:=hlv g e.symm;have:=hnew g hbb;omega
    · rw [setN_ne _ _ h,setN_ne _ _ h]
      have hi':i<q:=by omega
      refine ((G.row i hi').alloc ob).kept hgrow ?_
      rw [ownBlock_blk]
      rcases hbb:blk (ra i) with _ | g
      · exact .inl rfl
      · right;intro e;exact G.far i g hi' hbb e.symm
  · by_cases h:i=q
    · subst h
      rw [setN_self] at e
      have h1:=hnew g e
      rcases hv' g e2 with h2 | h2
      · have:=hlv g h2;omega
      · omega
    · rw [setN_ne _ _ h] at e
      have hi':i<q:=by omega
      have h1:=hltr i g hi' e
      rcases hv' g e2 with h2 | h2
      · exact G.far i g hi' e h2
      · omega
  · have hi:i<q:=by omega
    rw [setN_ne _ _ (by omega)] at e
    by_cases h:j=q
    · subst h
      rw [setN_self] at e2
      have h1:=hlr i g hi e
      have h2:=hnew g e2
      omega
    · rw [setN_ne _ _ h] at e2
      exact G.apart i j g hij (by omega) e e2
theorem own_setFar {w:World} {base e s n:Nat} {v:Value} {xs:List Value} (h:w.ownsRow base e s v n xs) {b o:Nat} (hb:b<base) (u:Value):(w.setCell ⟨b,o,none⟩ u).ownsRow base e s v n xs:=
  h.kept (row:=some b) ⟨rfl,rfl,rfl,by simp [World.setCell],fun k _ hk=>Below.heap_setCell _ _ _ _ (fun e=>hk (by rw [e]))⟩ (.inr (fun e=>by have:=(h.lt b e).1;omega))
theorem RowsIn.base {B B':Nat} {w:World} {q:Nat} {v:Value} {ra:Nat→Option Addr} {rc m:Nat→Nat} {f:Nat→Nat→Int} (G:RowsIn B' w q v ra rc m f) (h:B≤B'):RowsIn B w q v ra rc m f:=
  ⟨own_base G.own h,fun i hi=>own_base (G.row i hi) h,G.far,G.apart⟩
theorem own_some {w:World} {base e n:Nat} {a:Option Addr} {c:Nat} {xs:List Value} (h:w.ownsRow base e 1 (.slice a n c) n xs) (hn:0<n):∃ g,a=some ⟨g,0,none⟩∧base≤g∧∀ j u,xs[j]? = some u→w.cell? ⟨g,j,none⟩=some u:=by
  rcases h.2 with ⟨_,e⟩ | ⟨g,cap,cur,hv,hbg,_⟩
  · omega
  · injection hv with e1 e2 e3
    subst e1
    refine⟨g,rfl,hbg,fun j u hu=>?_⟩
    have:=h.cells (g:=g) rfl j u hu
    rw [add_at,Nat.zero_add] at this;exact this
def mkF (n:Nat) (F G:Nat→Bool) (r i:Nat):Bool:=F i || (G i && decide (rankF G i<r))
end Go.Proofs.YtgmopcncbpdniaaGreat
