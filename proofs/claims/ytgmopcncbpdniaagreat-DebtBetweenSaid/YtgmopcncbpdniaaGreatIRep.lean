import Derived.Test.YtgmopcncbpdniaaGreatIRef1
import Derived.Test.YtgmopcncbpdniaaGreatIGen
import Derived.Test.YtgmopcncbpdniaaGreatILin0
import Derived.Laws.CopyOwn
set_option linter.unusedVariables false
set_option linter.unusedSimpArgs false
namespace Go.Proofs.YtgmopcncbpdniaaGreat
open Go.RowKit
theorem cf_w_yes (x:Int) (w:World) (h:(x<0∨1000<x)):Calls Tryz.prog 112 #[.int .i64 x] w fun e w'=>e = .returned (.bool true)∧w=w':=by
 by_cases h1:x<0
 ·have d1:decide (x<0)=true:=by simpa using h1
  go_enter Tryz.func112,Tryz.ntmps112
  go_wp2
  go_ret
  exact⟨rfl,rfl⟩
 ·have d1:decide (x<0)=false:=by simpa using h1
  have d2:decide (1000<x)=true:=by simp;omega
  go_enter Tryz.func112,Tryz.ntmps112
  go_wp2
  go_ret
  exact⟨rfl,rfl⟩
theorem cf_w_no (x:Int) (w:World) (h:¬ (x<0∨1000<x)):Calls Tryz.prog 112 #[.int .i64 x] w fun e w'=>e = .returned (.bool false)∧w=w':=by
 have d1:decide (x<0)=false:=by simp;omega
 have d2:decide (1000<x)=false:=by simp;omega
 clear h
 go_enter Tryz.func112,Tryz.ntmps112
 go_wp2
 go_ret
 exact⟨rfl,rfl⟩
theorem cf_w_hit (v:Value) (n:Nat) (f:Nat→Int) (w:World) (hv:Ints w v n f) (hn:n≤1048576) (hit:∃ i,i<n∧(f i<0∨1000<f i)) :
  Calls Tryz.prog 137 #[v,.func (.func 112) #[] #[]] w fun e w'=>∃ z:Nat,e = .returned (.int .i64 (z:Nat))∧Drawn w w':=by
 obtain⟨a,b,o,c,rfl,hs⟩:=hv
 have HH:=Lib.hid hit
 clear hit
 go_enter Tryz.func137,Tryz.ntmps137
 go_wp2
 go_loopw [5,8] (fun _ i wr=>∃ k:Nat,k≤n∧i = .int .i64 (k:Nat)∧Hid (∀ i,i<k→¬ (f i<0∨1000<f i))∧Hid (Drawn w wr)) (fun _ i _=>n - (intOf i).toNat)
 case atStart=>exact⟨0,by omega,rfl,Lib.hid (fun i hi=>by omega),Lib.hid (Drawn.refl _)⟩
 case round=>
  obtain⟨k,hk,rfl,HG,hd⟩:=hrel
  by_cases h:k<n
  ·have hix:=fun W=>ixI hs k c h W
   have hc:=(hs.drawn hd.out).cell k h
   simp only [ic] at hc
   by_cases hb:(f k<0∨1000<f k)
   ·have HB:=Lib.hid hb
    clear hb
    go_wp2_with (go_at_call 112;(with_reducible refine (cf_w_yes _ _ HB.out).mono ?_);rintro e w' ⟨rfl,rfl⟩)
    go_ret
    exact⟨k,rfl,hd.out⟩
   ·have HB:=Lib.hid hb
    clear hb
    go_wp2_with (go_at_call 112;(with_reducible refine (cf_w_no _ _ HB.out).mono ?_);rintro e w' ⟨rfl,rfl⟩)
    go_roundw
    case rel=>exact⟨k+1,by omega,by go_num,Lib.hid (ext_lt HG.out HB.out),hd⟩
    case measure=>simp [intOf];omega
  ·exfalso
   obtain⟨i,hi,hb⟩:=HH.out
   exact HG.out i (by omega) hb
theorem cf_w_miss (v:Value) (n:Nat) (f:Nat→Int) (w:World) (hv:Ints w v n f) (hn:n≤1048576) (miss:∀ i,i<n→¬ (f i<0∨1000<f i)) :
  Calls Tryz.prog 137 #[v,.func (.func 112) #[] #[]] w fun e w'=>e = .returned (.int .i64 (-1))∧Drawn w w':=by
 obtain⟨a,b,o,c,rfl,hs⟩:=hv
 have HH:=Lib.hid miss
 clear miss
 go_enter Tryz.func137,Tryz.ntmps137
 go_wp2
 go_loopw [5,8] (fun _ i wr=>∃ k:Nat,k≤n∧i = .int .i64 (k:Nat)∧Hid (Drawn w wr)) (fun _ i _=>n - (intOf i).toNat)
 case atStart=>exact⟨0,by omega,rfl,Lib.hid (Drawn.refl _)⟩
 case round=>
  obtain⟨k,hk,rfl,hd⟩:=hrel
  by_cases h:k<n
  ·have hix:=fun W=>ixI hs k c h W
   have hc:=(hs.drawn hd.out).cell k h
   simp only [ic] at hc
   have HB:=Lib.hid (HH.out k h)
   go_wp2_with (go_at_call 112;(with_reducible refine (cf_w_no _ _ HB.out).mono ?_);rintro e w' ⟨rfl,rfl⟩)
   go_roundw
   case rel=>exact⟨k+1,by omega,by go_num,hd⟩
   case measure=>simp [intOf];omega
  ·go_wp2
   go_ret
   exact⟨rfl,hd.out⟩
theorem cf_w_any (v:Value) (n:Nat) (f:Nat→Int) (r:Bool) (hr:r=true↔∃ i,i<n∧(f i<0∨1000<f i)) (w:World) (hv:Ints w v n f) (hn:n≤1048576) :
  Calls Tryz.prog 111 #[v,.func (.func 112) #[] #[]] w fun e w'=>e = .returned (.bool r)∧Drawn w w':=by
 have HV:=Lib.hid hv
 obtain⟨a,b,o,c,rfl,hs⟩:=hv
 clear hs
 cases r with
 | true=>
  have HH:=Lib.hid (hr.1 rfl)
  clear hr
  go_enter Tryz.func111,Tryz.ntmps111
  go_wp2_with (go_at_call 137;(with_reducible refine (cf_w_hit _ n f _ HV.out hn HH.out).mono ?_);rintro e w' ⟨z,rfl,hd⟩;have hz:decide ((0:Int)≤(z:Int))=true:=(by simp))
  go_ret
  exact⟨rfl,hd⟩
 | false=>
  have HH:=Lib.hid (show ∀ i,i<n→¬ (f i<0∨1000<f i) from fun i hi hb=>by have:=hr.2 ⟨i,hi,hb⟩;cases this)
  clear hr
  go_enter Tryz.func111,Tryz.ntmps111
  go_wp2_with (go_at_call 137;(with_reducible refine (cf_w_miss _ n f _ HV.out hn HH.out).mono ?_);rintro e w' ⟨rfl,hd⟩)
  go_ret
  exact⟨rfl,hd⟩
theorem within_any (v:Value) (n:Nat) (f:Nat→Int) (r:Bool) (hr:r=true↔∀ i,i<n→0≤f i∧f i≤1000) (w:World) (hv:Ints w v n f) (hn:n≤1048576) :
  Calls Tryz.prog 70 #[v] w fun e w'=>e = .returned (.bool r)∧Drawn w w':=by
 have HV:=Lib.hid hv
 obtain⟨a,b,o,c,rfl,hs⟩:=hv
 clear hs
 have HH:Hid ((!r)=true↔∃ i,i<n∧(f i<0∨1000<f i)):=Lib.hid (by
  cases r
  ·simp only [Bool.not_false,true_iff]
   apply Classical.byContradiction
   intro hne
   have:false=true:=hr.2 fun i hi=>by
    apply Classical.byContradiction
    intro hx
    exact hne ⟨i,hi,by omega⟩
   cases this
  ·simp only [Bool.not_true,Bool.false_eq_true,false_iff]
   rintro ⟨i,hi,hx⟩
   have:=hr.1 rfl i hi
   omega)
 clear hr
 obtain⟨q,rfl⟩:∃ q,r = !q:=⟨!r,by simp⟩
 rw [Bool.not_not] at HH
 go_enter Tryz.func70,Tryz.ntmps70
 go_wp2_with (go_at_call 111;(with_reducible refine (cf_w_any _ n f q HH.out _ HV.out hn).mono ?_);rintro e w' ⟨rfl,hd⟩)
 go_ret
 exact⟨rfl,hd⟩
set_option maxHeartbeats 1000000 in
theorem square_any (v:Value) (n:Nat) (m:Nat→Nat) (f:Nat→Nat→Int) (r:Bool) (hr:r=true↔Debts n m f) (w:World) (hv:Mat w v n m f) (hn:n≤1048576) (hm:∀ i,i<n→m i≤1048576) :
  Calls Tryz.prog 69 #[v] w fun e w'=>e = .returned (.bool r)∧Drawn w w':=by
 obtain⟨a,b,o,c,ra,rb,ro,rc,rfl,hs⟩:=hv
 have HR:=Lib.hid hr
 have HMM:=Lib.hid hm
 clear hr hm
 by_cases h1:n<1
 ·obtain rfl:r=false:=bool_false HR.out (fun q=>by have:=q.1;omega)
  have d1:decide ((n:Int)<1)=true:=by simp;omega
  clear h1
  go_enter Tryz.func69,Tryz.ntmps69
  go_wp2
  go_ret
  exact⟨rfl,Drawn.refl _⟩
 ·have d1:decide ((n:Int)<1)=false:=by simp;omega
  by_cases h8:8<n
  ·obtain rfl:r=false:=bool_false HR.out (fun q=>by have:=q.2.1;omega)
   have d2:decide ((8:Int)<(n:Int))=true:=by simp;omega
   clear h1 h8
   go_enter Tryz.func69,Tryz.ntmps69
   go_wp2
   go_ret
   exact⟨rfl,Drawn.refl _⟩
  ·have d2:decide ((8:Int)<(n:Int))=false:=by simp;omega
   have HN:=Lib.hid (show 1≤n∧n≤8 by omega)
   clear h1 h8
   go_enter Tryz.func69,Tryz.ntmps69
   go_wp2
   go_loopw [3,4,15] (fun _ _ i wr=>∃ k:Nat,k≤n∧i = .int .i64 (k:Nat)∧Hid (∀ i,i<k→m i=n∧f i i=0∧∀ j,j<n→0≤f i j∧f i j≤1000)∧Hid (Drawn w wr)) (fun _ _ i _=>n - (intOf i).toNat)
   case atStart=>exact⟨0,by omega,rfl,Lib.hid (fun i hi=>by omega),Lib.hid (Drawn.refl _)⟩
   case round=>
    obtain⟨k,hk,rfl,HG,hd⟩:=hrel
    by_cases h:k<n
    ·have hix:=fun W=>ixM hs.top k c h W
     have hc:=(hs.top.drawn hd.out).cell k h
     by_cases h1:m k=n
     ·have d3:(((m k:Nat):Int) != ((n:Nat):Int))=false:=by simp [h1]
      have HM:=Lib.hid h1
      have HRow:Hid (Ints wr (.slice (ra k) (m k) (rc k)) (m k) (f k)):=Lib.hid ⟨ra k,rb k,ro k,rc k,rfl,(hs.row k h).drawn hd.out⟩
      have hmk:=HMM.out k h
      by_cases h2:∀ j,j<m k→0≤f k j∧f k j≤1000
      ·have H2:=Lib.hid h2
       have hjx:=fun W=>ixI (hs.row k h) k (rc k) (by omega) W
       have hjc0:=Lib.hid ((hs.row k h).cell k (by omega))
       have HSL:=Lib.hid ((hs.row k h).lt (by omega))
       clear h1 h2
       have HD0:=hd
       by_cases h3:f k k=0
       ·have d4:(f k k != 0)=false:=by simpa using h3
        have H3:=Lib.hid h3
        clear h3
        go_wp2_with (go_at_call 70;(with_reducible refine (within_any _ (m k) (f k) true ⟨fun _=>H2.out,fun _=>rfl⟩ _ HRow.out hmk).mono ?_);rintro e w1 ⟨rfl,hd1⟩;have hd:=Lib.hid (hd.out.trans hd1);have hjc:=(hd.out.below w.heap.size).cell (p:=⟨rb k,ro k+k,none⟩) HSL.out;rw [hjc0.out] at hjc;simp only [ic] at hjc)
        go_roundw
        case rel=>exact⟨k+1,by omega,by go_num,Lib.hid (ext_lt HG.out ⟨HM.out,H3.out,fun j hj=>H2.out j (by rw [HM.out];exact hj)⟩),hd⟩
        case measure=>simp [intOf];omega
       ·have d4:(f k k != 0)=true:=by simpa using h3
        obtain rfl:r=false:=bool_false HR.out (fun q=>h3 (q.2.2 k h).2.1)
        clear h3
        go_wp2_with (go_at_call 70;(with_reducible refine (within_any _ (m k) (f k) true ⟨fun _=>H2.out,fun _=>rfl⟩ _ HRow.out hmk).mono ?_);rintro e w1 ⟨rfl,hd1⟩;have hd:=Lib.hid (hd.out.trans hd1);have hjc:=(hd.out.below w.heap.size).cell (p:=⟨rb k,ro k+k,none⟩) HSL.out;rw [hjc0.out] at hjc;simp only [ic] at hjc)
        go_ret
        exact⟨rfl,hd.out⟩
      ·obtain rfl:r=false:=bool_false HR.out (fun q=>h2 (fun j hj=>(q.2.2 k h).2.2 j (by rw [←h1];exact hj)))
       have H2:=Lib.hid h2
       clear h1 h2
       go_wp2_with (go_at_call 70;(with_reducible refine (within_any _ (m k) (f k) false ⟨fun q=>(by cases q),fun q=>absurd q H2.out⟩ _ HRow.out hmk).mono ?_);rintro e w1 ⟨rfl,hd1⟩;have hd:=Lib.hid (hd.out.trans hd1))
       go_ret
       exact⟨rfl,hd.out⟩
     ·have d3:(((m k:Nat):Int) != ((n:Nat):Int))=true:=by simp;omega
      obtain rfl:r=false:=bool_false HR.out (fun q=>h1 (q.2.2 k h).1)
      clear h1
      go_wp2
      go_ret
      exact⟨rfl,hd.out⟩
    ·obtain rfl:k=n:=by omega
     obtain rfl:r=true:=HR.out.2 ⟨HN.out.1,HN.out.2,HG.out⟩
     go_wp2
     go_ret
     exact⟨rfl,hd.out⟩
end Go.Proofs.YtgmopcncbpdniaaGreat
namespace Go.Proofs.YtgmopcncbpdniaaGreat
open Go.RowKit
attribute [local go_sem ↓] Go.wp_at_zero Go.wp_at_succ
theorem Mat.row_len {w:World} {v:Value} {n:Nat} {m m':Nat→Nat} {f:Nat→Nat→Int} (h:Mat w v n m f) (hm:∀ i,i<n→m i=m' i):Mat w v n m' f:=by
 obtain⟨a,b,o,c,ra,rb,ro,rc,rfl,h⟩:=h
 exact⟨a,b,o,c,ra,rb,ro,rc,rfl,⟨h.top.congr (fun i hi=>by rw [hm i hi]),fun i hi=>by rw [←hm i hi];exact h.row i hi⟩⟩
theorem Own4.put3 {w:World} {b:Nat} {x y z u:Value} (h:Own4 w b x y z u) (v:Value):Own4 (w.setCell ⟨b,3,none⟩ v) b x y z v:=
 ⟨off_set (by decide) h.c0,off_set (by decide) h.c1,off_set (by decide) h.c2,self_set h.c3,fun o=>by rw [World.frozen?_setCell];exact h.f o,by simp only [World.setCell,Array.size_modify];exact h.lt⟩
theorem own_block {w w':World} {b:Nat} {row:Option Nat} {x y z u:Value} (h:Own4 w b x y z u) (hg:w.grownBy w' row) (hne:some b≠row):Own4 w' b x y z u:=
 have e:=hg.block b h.lt hne
 have c:∀ o,w'.cell? ⟨b,o,none⟩=w.cell? ⟨b,o,none⟩:=fun o=>World.cell?_of_block (a:=⟨b,o,none⟩) e
 ⟨(c 0).trans h.c0,(c 1).trans h.c1,(c 2).trans h.c2,(c 3).trans h.c3,fun o=>(World.frozen?_of_block (a:=⟨b,o,none⟩) e).trans (h.f o),Nat.lt_of_lt_of_le h.lt hg.size⟩
set_option maxHeartbeats 4000000 in
set_option maxRecDepth 100000 in
theorem read_ok (vc vd:Value) (n:Nat) (cash:Nat→Int) (m:Nat→Nat) (d:Nat→Nat→Int) (w:World) (hc:Ints w vc n cash) (hd:Mat w vd n m d) (hD:Debts n m d) (hC:∀ i,i<n→0≤cash i∧cash i≤1000) :
  Calls Tryz.prog 38 #[vc,vd] w fun e w'=>∃ b vt,e = .returned (.tuple #[.pointer (some ⟨b,0,none⟩),.bool true])∧IsMkt w' b n cash d vc vd vt∧Below w.heap.size w w':=by
 have HC:=Lib.hid hc
 have HDM:=Lib.hid hd
 have HDB:=Lib.hid hD
 have HCB:=Lib.hid hC
 have hn8:n≤8:=hD.2.1
 obtain⟨ca,cb,co,cc,rfl,hcs⟩:=hc
 obtain⟨da,db,d_o,dc,ra,rb,ro,rc,rfl,hdm⟩:=hd
 have HM:=Lib.hid (show ∀ i,i<n→m i=n from fun i hi=>(hD.2.2 i hi).1)
 have HV:=Lib.hid (show ∀ i j,i<n→j<n→0≤d i j∧d i j≤1000 from fun i j hi hj=>(hD.2.2 i hi).2.2 j hj)
 have hneq:(((n:Nat):Int) != ((n:Nat):Int))=false:=by simp
 obtain⟨i0,hi,hz0,hz1,hz2⟩:=info_parts infoI
 clear hD hC hcs
 go_enter Tryz.func38,Tryz.ntmps38
 go_wp2_with (first
  | (go_at_call 69;(with_reducible refine (square_any _ n m d true ⟨fun _=>HDB.out,fun _=>rfl⟩ _ HDM.out (by omega) (fun i hi=>by rw [HM.out i hi];omega)).mono ?_);rintro e w1 ⟨rfl,hd1⟩)
  | (go_at_call 70;(with_reducible refine (within_any _ n cash true ⟨fun _=>HCB.out,fun _=>rfl⟩ _ (HC.out.drawn hd1) (by omega)).mono ?_);rintro e w2 ⟨rfl,hd2⟩))
 have hsz:w.heap.size=w2.heap.size:=by obtain⟨k1,rfl⟩:=hd1;obtain⟨k2,rfl⟩:=hd2;simp
 have KW:=Lib.hid (((hd1.below w.heap.size).trans (hd2.below w.heap.size)).alloc (Nat.le_of_eq hsz) (.cells #[.int .i64 (n:Nat),.slice ca n cc,.slice da n dc,.slice none 0 0] 87))
 have PM:=Lib.hid (own4_new w2 _ rfl (.int .i64 (n:Nat)) (.slice ca n cc) (.slice da n dc) (.slice none 0 0) 87)
 generalize hmb:w2.heap.size=mb at *
 have hmb2:=Lib.hid hmb
 clear hmb
 go_loopw [35] (fun v35 wr=>∃ k:Nat,k≤n∧v35 = .int .i64 (k:Nat)∧∃ va vk,Hid (wr.ownsRow (mb+1) 3 1 (.slice va k vk) k (ics (fun i=>sumF (d i) n) k))∧Hid (Own4 wr mb (.int .i64 (n:Nat)) (.slice ca n cc) (.slice da n dc) (.slice va k vk))∧Hid (Below w.heap.size w wr)) (fun v35 _=>n - (intOf v35).toNat)
 case atStart=>exact⟨0,by omega,rfl,none,0,Lib.hid (World.ownsRow_nil _ _ _ _),PM,KW⟩
 case round=>
  clear PM KW
  obtain⟨k,hk,rfl,va,vk,OW,PM,KW⟩:=hrel
  by_cases h:k<n
  ·have hdr:=hdm.mono KW.out (Nat.le_refl _)
   have hix:=fun W=>ixM hdr.top k dc h W
   have hcr:=hdr.top.cell k h
   have hrow:=hdr.row k h
   have HROW:=Lib.hid hrow
   have hmk:=HM.out k h
   rw [hmk] at hcr
   clear hdr hrow hmk
   obtain⟨p0,p1,p2,p3,pf,pl⟩:=PM.out
   go_wp2
   go_loop [9,41] (fun v9 v41=>∃ l:Nat,l≤n∧v41 = .int .i64 (l:Nat)∧v9 = .int .i64 (sumF (d k) l)) (fun _ v41=>n - (intOf v41).toNat)
   case atStart=>exact⟨0,by omega,rfl,rfl⟩
   case round=>
    obtain⟨l,hl,rfl,rfl⟩:=hrel
    by_cases h2:l<n
    ·have hrow:=HROW.out
     rw [HM.out k h] at hrow
     have hjx:=fun W=>ixI hrow l (rc k) h2 W
     have hjc:=hrow.cell l h2
     simp only [ic] at hjc
     obtain⟨v1,v2⟩:=HV.out k l h h2
     obtain⟨s1,s2⟩:=sumF_bound (d k) l 1000 (fun i hi=>by have:=HV.out k i h (by omega);omega)
     have s3 : -(8000:Int)≤sumF (d k) l:=by omega
     have s4:sumF (d k) l≤8000:=by omega
     clear s1 s2 hrow
     go_wp2
     go_round
     case rel=>exact⟨l+1,by omega,by go_num,rfl⟩
     case measure=>simp [intOf];omega
    ·obtain rfl:l=n:=by omega
     clear hix hcr
     have hbase:mb+1≤(wr.alloc (.cells #[.int .i64 (sumF (d k) l)] 3)).heap.size:=by simp;omega
     have hnews:∀ j u,[Value.int .i64 (sumF (d k) l)][j]? = some u→(wr.alloc (.cells #[.int .i64 (sumF (d k) l)] 3)).cell? ((⟨wr.heap.size,0,none⟩:Addr).add j)=some u:=fun j u hj=>by
      match j,hj with
      | 0,hj=>simp at hj;subst hj;simp [go_sem,Addr.add]
     have hone:∀ u ∈ [Value.int .i64 (sumF (d k) l)],u.oneCell'=true:=fun u hu=>by simp at hu;subst hu;rfl
     have HBS:=Lib.hid hbase
     have HNW:=Lib.hid hnews
     have HON:=Lib.hid hone
     clear hbase hnews hone
     go_wp2_with (at_builtin;refine wpList_append_own _ rfl (.tmp 53) (.tmp 55) 24 rfl (mb+1) 3 i0 (.int .i64 0) 1 8 Tryz.underlying24 hi hz0 hz1 hz2 rfl (by decide) (.slice va k vk) k (ics (fun i=>sumF (d i) l) k) rfl (OW.out.alloc _) ⟨wr.heap.size,0,none⟩ 1 1 [.int .i64 (sumF (d k) l)] rfl rfl HNW.out HON.out (by unfold maxLen;omega) (by omega) HBS.out ?_;intro v' w3 hown hgrow _;have hbk:=(OW.out.alloc (.cells #[.int .i64 (sumF (d k) l)] 3)).lt;have PM:=Lib.hid (own_block (PM.out.alloc _) hgrow (fun e=>by have:=(hbk mb e.symm).1;omega));have KW:=Lib.hid ((KW.out.alloc KW.out.size _).grown hgrow (by have:=KW.out.size;simp;omega) (fun kk e=>by have:=(hbk kk e).1;have:=hmb2.out;omega));rw [ics_succ] at hown;obtain⟨va',vk',rfl⟩:=own_shape hown;have OW:=Lib.hid hown;obtain⟨q0,q1,q2,q3,qf,ql⟩:=PM.out;clear hown hgrow hbk)
     go_roundw
     case rel=>
      refine⟨k+1,by omega,by go_num,va',vk',?_,?_,?_⟩
      ·exact Lib.hid (OW.out.kept (row:=some mb) (grown_set (World.grownBy.refl _ _) 3 _) (by
        rcases hb:(Value.slice va' (k+1) vk').ownBlock with _ | g
        ·exact .inl rfl
        ·right;intro e;have:=(OW.out.lt g hb).1;have e2:=Option.some.inj e;omega))
      ·exact Lib.hid (PM.out.put3 _)
      ·exact Lib.hid (KW.out.setCell (by show w.heap.size≤mb;omega) _)
     case measure=>simp [intOf];omega
  ·obtain rfl:k=n:=by omega
   go_wp2
   go_ret2
   refine⟨mb,_,rfl,⟨PM.out.c0,PM.out.c1,PM.out.c2,PM.out.c3,HC.out.mono KW.out (Nat.le_refl _),?_,ints_of_own OW.out,PM.out.lt⟩,KW.out⟩
   have h:=HDM.out.mono KW.out (Nat.le_refl _)
   exact h.row_len HM.out
end Go.Proofs.YtgmopcncbpdniaaGreat
namespace Go.Proofs.YtgmopcncbpdniaaGreat
open Go.RowKit
attribute [local go_sem ↓] Go.wp_at_zero Go.wp_at_succ
structure OwnMat (w:World) (R n:Nat) (r:Nat→Nat→Int):Prop where
 top:w.rowIs R 24 n (fun i=>.slice (some ⟨R+1+i,0,none⟩) n n)
 row:∀ i,i<n→w.rowIs (R+1+i) 3 n (ic (r i))
theorem OwnMat.isMat {w:World} {R n:Nat} {r:Nat→Nat→Int} (h:OwnMat w R n r):IsMat w (some ⟨R,0,none⟩) R 0 n n (fun i=>some ⟨R+1+i,0,none⟩) (fun i=>R+1+i) (fun _=>0) (fun _=>n) (fun _=>n) r:=
 ⟨rowIs_sl h.top,fun i hi=>rowIs_sl (h.row i hi)⟩
theorem OwnMat.mat {w:World} {R n:Nat} {r:Nat→Nat→Int} (h:OwnMat w R n r):Mat w (.slice (some ⟨R,0,none⟩) n n) n (fun _=>n) r:=⟨_,_,_,_,_,_,_,_,rfl,h.isMat⟩
theorem OwnMat.below {w w':World} {R n B:Nat} {r:Nat→Nat→Int} (h:OwnMat w R n r) (hb:Below B w w') (hB:R+1+n≤B):OwnMat w' R n r:=
 ⟨rowIs_below h.top hb (by omega),fun i hi=>rowIs_below (h.row i hi) hb (by omega)⟩
theorem OwnMat.set {w:World} {R n i j:Nat} {r:Nat→Nat→Int} (h:OwnMat w R n r) (hi:i<n) (x:Int):OwnMat (w.setCell ⟨R+1+i,j,none⟩ (.int .i64 x)) R n (upd2 r i j x):=
 ⟨h.top.setOther (by dsimp only;omega) _,fun a ha=>by
  by_cases e:a=i
  ·subst e
   refine ((h.row a ha).set j _).congr fun b hb=>?_
   by_cases e2:b=j
   ·simp [ic,upd2,e2]
   ·simp [ic,upd2,e2]
  ·refine ((h.row a ha).setOther (by dsimp only;omega) _).congr fun b hb=>?_
   simp [ic,upd2,e]⟩
theorem infoIs:(Tryz.prog.info? 24).map (fun i=>(i.zero,i.size,i.bytes))=some (some (.slice none 0 0),1,24):=by kernel_rfl
theorem copy_new (w:World) (n:Nat) (a:Option Addr) (b o c:Nat) (f:Nat→Int) (hn:0<n) (h:IsSl w a b o c n (ic f)) :
  (Builtin.copy_ #[24,24] 3 #[.slice (some ⟨w.heap.size,0,none⟩) n n,.slice a n c]).run Tryz.prog (w.alloc (.cells (madeCells #[.int .i64 0] n) 3)) =
   .ok (.int .i64 (n:Nat)) (w.alloc (.cells (ics f n).toArray 3)):=by
 obtain rfl:=h.at_ hn
 have hz:(madeCells #[Value.int .i64 0] n).size=n:=size_madeCells _ _
 have e:=run_copy_rowS (P:=Tryz.prog) (w.alloc (.cells (madeCells #[.int .i64 0] n) 3)) 24 24 3 3 w.heap.size 0 n n ⟨b,o,none⟩ n c (madeCells #[.int .i64 0] n) 3
  (ics f n) 1 n Tryz.underlying24 (by kernel_rfl) (by unfold World.alloc;simp) (by simp) (by rw [ics_length];omega) ?_ (by rw [ics_length,hz];omega) (ics_one f n)
 ·have hl:((madeCells #[Value.int .i64 0] n).toList.take 0 ++ ics f n ++ (madeCells #[Value.int .i64 0] n).toList.drop (0+(ics f n).length)).toArray=(ics f n).toArray:=by
   rw [ics_length,Nat.zero_add,List.drop_eq_nil_of_le (by rw [Array.length_toList,hz];omega)]
   simp
  rw [e,hl,alloc_setRow]
  rfl
 ·intro j v hj
  have hlt:=h.lt hn
  have hjn:j<n:=by
   have:=(List.getElem?_eq_some_iff.1 hj).1
   rw [ics_length] at this;exact this
  rw [ics_get f n j hjn] at hj
  have hadd:(⟨b,o,none⟩:Addr).add j=⟨b,o+j,none⟩:=by unfold Addr.add;split <;> simp_all
  rw [hadd,←Option.some.inj hj]
  exact (World.cell?_alloc_some w _ _ (by rw [h.cell j hjn];rfl)).trans (h.cell j hjn)
theorem row_of_ics (w:World) (b n:Nat) (f:Nat→Int) (hb:b=w.heap.size):(w.alloc (.cells (ics f n).toArray 3)).rowIs b 3 n (ic f):=by
 subst hb
 have h:=World.rowIs_alloc w (ics f n).toArray 3 (ic f) (fun i hi=>by simp [ics_length] at hi;simp [ics,hi])
 simpa [ics_length] using h
set_option maxHeartbeats 2000000 in
set_option maxRecDepth 100000 in
theorem copied_any (v:Value) (n:Nat) (d:Nat→Nat→Int) (w:World) (hv:Mat w v n (fun _=>n) d) (h0:0<n) (hn:n≤8) :
  Calls Tryz.prog 116 #[v] w fun e w'=>e = .returned (.slice (some ⟨w.heap.size,0,none⟩) n n)∧OwnMat w' w.heap.size n d∧w'.heap.size=w.heap.size+1+n∧Below w.heap.size w w':=by
 obtain⟨a,b,o,c,ra,rb,ro,rc,rfl,hs⟩:=hv
 have hmk:=run_make_row' (P:=Tryz.prog) 25 24 (.slice none 0 0) 24 Tryz.underlying25 infoIs rfl .i64 .i64 n (by omega) (by omega)
 have hmk2:=run_make_row' (P:=Tryz.prog) 24 3 (.int .i64 0) 8 Tryz.underlying24 infoI rfl .i64 .i64 n (by omega) (by omega)
 have HROW:=Lib.hid (World.rowIs_made w (.slice none 0 0) n 24)
 have KW0:=Lib.hid ((Below.refl w.heap.size w).alloc (Nat.le_refl _) (.cells (madeCells #[.slice none 0 0] n) 24))
 have HS:=Lib.hid hs
 clear hs
 go_enter Tryz.func116,Tryz.ntmps116
 go_wp2
 go_loopw [4,5,11] (fun _ _ v11 wr=>∃ k:Nat,k≤n∧v11 = .int .i64 (k:Nat)∧Hid (wr.rowIs w.heap.size 24 n (fun i=>if i<k then .slice (some ⟨w.heap.size+1+i,0,none⟩) n n else .slice none 0 0))∧
   Hid (∀ i,i<k→wr.rowIs (w.heap.size+1+i) 3 n (ic (d i)))∧Hid (wr.heap.size=w.heap.size+1+k)∧Hid (Below w.heap.size w wr)) (fun _ _ v11 _=>n - (intOf v11).toNat)
 case atStart=>exact⟨0,by omega,rfl,Lib.hid (HROW.out.congr fun i hi=>by simp),Lib.hid (fun i hi=>by omega),Lib.hid (by simp),KW0⟩
 case round=>
  clear KW0 HROW
  obtain⟨k,hk,rfl,TOP,ROWS,SZ,KW⟩:=hrel
  by_cases h:k<n
  ·have hm:=HS.out.mono KW.out (Nat.le_refl _)
   have hix:=fun W=>ixM hm.top k c h W
   have hcr:=hm.top.cell k h
   have htx:=fun W=>ixM (rowIs_sl TOP.out) k n h W
   simp only [Nat.zero_add] at htx
   have htc:=TOP.out.cell h
   rw [if_neg (Nat.lt_irrefl k)] at htc
   have htf:=TOP.out.frozen k
   have hsz:=SZ.out
   have hlt:w.heap.size<wr.heap.size:=TOP.out.lt
   have hrw:=hm.row k h
   have HRW:=Lib.hid hrw
   have HSL:Hid (IsSl (wr.setCell ⟨w.heap.size,k,none⟩ (.slice (some ⟨wr.heap.size,0,none⟩) n n)) (ra k) (rb k) (ro k) (rc k) n (ic (d k))):=Lib.hid (hrw.setCell _ htc (fun i hi e=>by simp only [ic] at e;cases e))
   have hcp:=copy_new (wr.setCell ⟨w.heap.size,k,none⟩ (.slice (some ⟨wr.heap.size,0,none⟩) n n)) n (ra k) (rb k) (ro k) (rc k) (d k) h0 HSL.out
   have hss:(wr.setCell ⟨w.heap.size,k,none⟩ (.slice (some ⟨wr.heap.size,0,none⟩) n n)).heap.size=wr.heap.size:=by simp [World.setCell]
   rw [hss] at hcp
   clear hm hrw hss hsz
   go_wp2
   go_roundw
   case rel=>
    have hb1:Below w.heap.size w ((wr.setCell ⟨w.heap.size,k,none⟩ (.slice (some ⟨wr.heap.size,0,none⟩) n n)).alloc (.cells (ics (d k) n).toArray 3)):=
     (KW.out.setCell (Nat.le_refl _) _).alloc (by simp only [World.setCell,Array.size_modify];exact KW.out.size) _
    have e1:=SZ.out
    refine⟨k+1,by omega,by go_num,Lib.hid ?_,Lib.hid ?_,Lib.hid ?_,Lib.hid hb1⟩
    ·refine ((TOP.out.set k _).alloc _).congr fun i hi=>?_
     by_cases e:i=k
     ·subst e;rw [if_pos rfl,if_pos (by omega),e1]
     ·rw [if_neg e]
      by_cases e2:i<k
      ·rw [if_pos e2,if_pos (by omega)]
      ·rw [if_neg e2,if_neg (by omega)]
    ·intro i hi
     by_cases e:i=k
     ·subst e
      exact row_of_ics _ _ n (d i) (by simp only [World.setCell,Array.size_modify];omega)
     ·exact ((ROWS.out i (by omega)).setOther (by dsimp only;omega) _).alloc _
    ·simp [World.setCell];omega
   case measure=>simp [intOf];omega
  ·obtain rfl:k=n:=by omega
   go_wp2
   go_ret
   refine⟨rfl,⟨TOP.out.congr fun i hi=>by rw [if_pos hi],ROWS.out⟩,SZ.out,KW.out⟩
end Go.Proofs.YtgmopcncbpdniaaGreat
namespace Go.Proofs.YtgmopcncbpdniaaGreat
open Go.RowKit
attribute [local go_sem ↓] Go.wp_at_zero Go.wp_at_succ
def repV (k:Nat) (i:Nat):Value:=if i<k then .int .i64 (-1) else .int .i64 0
theorem mul1n (n:Nat) (hn:n≤8) (W:World):Calls Tryz.prog 150 #[.int .u64 1,.int .u64 (n:Nat)] W fun e w'=>e = .returned (.tuple #[.int .u64 0,.int .u64 (n:Nat)])∧W=w':=by
 have h:=Tryz.bits_Mul 1 n (by omega) (by omega) W
 refine Calls.mono (show Calls Tryz.prog 150 #[.int .u64 1,.int .u64 (n:Nat)] W _ from h) ?_
 rintro e w' ⟨rfl,rfl⟩
 refine⟨?_,rfl⟩
 rw [Nat.one_mul,Nat.div_eq_of_lt (by omega),Nat.mod_eq_of_lt (by omega)]
 rfl
theorem copy_in (w:World) (b n k B:Nat) (hk:0<k) (hkn:k<n) (hB:B≤b) (h:w.rowIs b 3 n (repV k)) :
  ∃ w',(Builtin.copy_ #[24,24] 3 #[.slice (some ⟨b,k,none⟩) (n - k) (n - k),.slice (some ⟨b,0,none⟩) k n]).run Tryz.prog w = .ok (.int .i64 (Nat.min k (n - k):Nat)) w'∧
   w'.rowIs b 3 n (repV (k+Nat.min k (n - k)))∧w'.heap.size=w.heap.size∧∀ w0,Below B w0 w→Below B w0 w':=by
 obtain⟨c,hb,hn,hc⟩:=h
 have hm:Nat.min k (n - k)≤n - k:=Nat.min_le_right _ _
 have hm2:Nat.min k (n - k)≤k:=Nat.min_le_left _ _
 generalize hmm:Nat.min k (n - k)=m at hm hm2 ⊢
 have e:=run_copy_rowS (P:=Tryz.prog) w 24 24 3 3 b k (n - k) (n - k) ⟨b,0,none⟩ k n c 3 (List.replicate m (.int .i64 (-1))) 1 m Tryz.underlying24 (by kernel_rfl) hb hmm.symm (by simp)
  (fun j v hj=>by
   have hjm:j<m:=by simpa using (List.getElem?_eq_some_iff.1 hj).1
   have hadd:(⟨b,0,none⟩:Addr).add j=⟨b,j,none⟩:=by unfold Addr.add;split <;> simp_all
   rw [hadd]
   have:v = .int .i64 (-1):=by simp [hjm] at hj;exact hj.symm
   have hcell:w.cell? ⟨b,j,none⟩=some (repV k j):=World.rowIs.cell ⟨c,hb,hn,hc⟩ (by omega)
   rw [hcell,this];unfold repV;rw [if_pos (by omega)])
  (by rw [List.length_replicate];omega) (fun v hv=>by rw [List.eq_of_mem_replicate hv];rfl)
 refine⟨_,e,⟨_,setRow_heap w b c _ _ _ hb,?_,fun i hi=>?_⟩,size_setRow _ _ _,fun w0 hw=>below_setRow hw hB _⟩
 ·simp;omega
 ·have hci:=hc i hi
  simp only [List.getElem?_toArray,List.length_replicate]
  by_cases h1:i<k
  ·rw [List.append_assoc,List.getElem?_append_left (by simp;omega),List.getElem?_take_of_lt h1,Array.getElem?_toList,hci]
   unfold repV;rw [if_pos h1,if_pos (by omega)]
  ·by_cases h2:i<k+m
   ·rw [List.append_assoc,List.getElem?_append_right (by simp;omega),List.getElem?_append_left (by simp;omega)]
    rw [List.getElem?_replicate,if_pos (by simp;omega)]
    unfold repV;rw [if_pos h2]
   ·rw [List.getElem?_append_right (by simp;omega),List.getElem?_drop,Array.getElem?_toList]
    have:k+m+(i - (List.take k c.toList ++ List.replicate m (Value.int IntKind.i64 (-1))).length)=i:=by simp;omega
    rw [this,hci]
    unfold repV;rw [if_neg h1,if_neg h2]
theorem copy_first (w:World) (b n c:Nat) (hn:0<n) (hb:w.cell? ⟨b,0,none⟩=some (.int .i64 (-1))) :
  ∃ w',(Builtin.copy_ #[24,24] 3 #[.slice (some ⟨w.heap.size,0,none⟩) n n,.slice (some ⟨b,0,none⟩) 1 c]).run Tryz.prog (w.alloc (.cells (madeCells #[.int .i64 0] n) 3)) = .ok (.int .i64 1) w'∧
   w'.rowIs w.heap.size 3 n (repV 1)∧w'.heap.size=w.heap.size+1∧Below w.heap.size w w':=by
 have hz:(madeCells #[Value.int .i64 0] n).size=n:=size_madeCells _ _
 have hnew:(w.alloc (.cells (madeCells #[.int .i64 0] n) 3)).heap[w.heap.size]? = some (.cells (madeCells #[.int .i64 0] n) 3 (0,0)):=by unfold World.alloc;simp
 have e:=run_copy_rowS (P:=Tryz.prog) (w.alloc (.cells (madeCells #[.int .i64 0] n) 3)) 24 24 3 3 w.heap.size 0 n n ⟨b,0,none⟩ 1 c (madeCells #[.int .i64 0] n) 3
  [.int .i64 (-1)] 1 1 Tryz.underlying24 (by kernel_rfl) hnew (by show 1=Nat.min 1 n;exact (Nat.min_eq_left hn).symm) rfl (fun j v hj=>by
   match j,hj with
   | 0,hj=>
    simp at hj;subst hj
    exact (World.cell?_alloc_some w _ _ (by show (w.cell? ⟨b,0,none⟩).isSome=true;rw [hb];rfl)).trans hb) (by rw [hz];simp;omega) (fun v hv=>by simp at hv;rw [hv];rfl)
 refine⟨_,e,⟨_,setRow_heap _ _ _ _ _ _ hnew,?_,fun i hi=>?_⟩,by rw [size_setRow];simp,below_setRow ((Below.refl w.heap.size w).alloc (Nat.le_refl _) _) (Nat.le_refl _) _⟩
 ·simp;omega
 ·have hm:(madeCells #[Value.int .i64 0] n)[i]? = some (.int .i64 0):=by simp [madeCells,hi,Nat.mod_one]
  unfold repV
  by_cases h1:i<1
  ·obtain rfl:i=0:=by omega
   simp
  ·rw [if_neg h1]
   simp only [List.getElem?_toArray]
   rw [List.getElem?_append_right (by simp;omega),List.getElem?_drop,Array.getElem?_toList]
   have:0 + [Value.int IntKind.i64 (-1)].length+(i - (List.take 0 (madeCells #[Value.int .i64 0] n).toList ++ [Value.int IntKind.i64 (-1)]).length)=i:=by simp;omega
   rw [this];exact hm
set_option maxHeartbeats 2000000 in
set_option maxRecDepth 100000 in
theorem repeat_neg (b c n:Nat) (w:World) (h0:0<n) (hn:n≤8) (hb:w.cell? ⟨b,0,none⟩=some (.int .i64 (-1))) :
  Calls Tryz.prog 140 #[.slice (some ⟨b,0,none⟩) 1 c,.int .i64 (n:Nat)] w fun e w'=>e = .returned (.slice (some ⟨w.heap.size,0,none⟩) n n)∧w'.rowIs w.heap.size 3 n (repV n)∧w'.heap.size=w.heap.size+1∧Below w.heap.size w w':=by
 have hmk:=run_make_row' (P:=Tryz.prog) 24 3 (.int .i64 0) 8 Tryz.underlying24 infoI rfl .i64 .i64 n (by omega) (by omega)
 have g0:(0:Int)<(n:Int):=by omega
 have hw1:IntKind.u64.wrap (n:Int)=(n:Int):=by rw [IntKind.wrap_u64];omega
 have hw2:IntKind.i64.wrap (n:Int)=(n:Int):=by rw [IntKind.wrap_i64];omega
 have hlim:¬ (n:Int) > 9223372036854775807:=by omega
 obtain⟨wC,hcp,HR,hsz,HB⟩:=copy_first w b n c h0 hb
 have HR:=Lib.hid HR
 have HB:=Lib.hid HB
 have HSZ:=Lib.hid hsz
 clear hsz
 go_enter Tryz.func140,Tryz.ntmps140
 go_wp2_with (first
  | (go_at_call 150;(with_reducible refine (mul1n n hn _).mono ?_);rintro e w1 ⟨rfl,rfl⟩))
 go_loopw [8] (fun v8 wr=>∃ k:Nat,0<k∧k≤n∧v8 = .int .i64 (k:Nat)∧Hid (wr.rowIs w.heap.size 3 n (repV k))∧Hid (wr.heap.size=w.heap.size+1)∧Hid (Below w.heap.size w wr)) (fun v8 _=>n - (intOf v8).toNat)
 case atStart=>exact⟨1,by omega,by omega,rfl,HR,HSZ,HB⟩
 case round=>
  clear HR HSZ HB
  obtain⟨k,k0,hk,rfl,HR,HSZ,HB⟩:=hrel
  by_cases h:k<n
  ·obtain⟨wD,hc2,HR2,hsz2,HB2⟩:=copy_in wr.drew w.heap.size n k w.heap.size k0 h (Nat.le_refl _) HR.out
   have HR2:=Lib.hid HR2
   have HB2:=Lib.hid (HB2 _ HB.out.drew)
   have HSZ2:=Lib.hid hsz2
   clear hsz2
   have hm1:Nat.min k (n - k)≤n - k:=Nat.min_le_right _ _
   have hm0:0<Nat.min k (n - k):=by show 0<min k (n - k);omega
   generalize Nat.min k (n - k)=m at *
   have hwk:IntKind.i64.wrap ((k:Int)+(m:Int))=((k+m:Nat):Int):=by rw [IntKind.wrap_i64];omega
   have g1:(0:Int)≤(k:Int):=Int.natCast_nonneg k
   have g2:(k:Int)<(n:Int):=by omega
   have g3:(k:Int)≤(n:Int):=by omega
   go_wp2
   go_region
   go_wp2
   go_roundw
   case rel=>exact⟨k+m,by omega,by omega,by go_num,HR2,Lib.hid (HSZ2.out.trans HSZ.out),HB2⟩
   case measure=>simp [intOf];omega
  ·obtain rfl:k=n:=by omega
   go_wp2
   go_ret
   exact⟨rfl,HR.out,HSZ.out,HB.out⟩
end Go.Proofs.YtgmopcncbpdniaaGreat
