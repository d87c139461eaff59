import Derived.Test.YtgmopcncbpdniaaGreatJClr
import Derived.Test.YtgmopcncbpdniaaGreatJGrp2
import Derived.Test.YtgmopcncbpdniaaGreatJBrow
import Derived.Maps.AppendAt
import Derived.Laws.Rows
import Derived.RegionTactic
import Derived.Deep.DeepCutAuto
import Derived.Deep.CutBlock
import Derived.Test.YtgmopcncbpdniaaGreatJCut
set_option linter.unusedVariables false
set_option linter.unusedSimpArgs false
namespace Go.Proofs.YtgmopcncbpdniaaGreat
open Go.RowKit
attribute [local go_sem ↓] Go.wp_at_zero Go.wp_at_succ
def Mkt (nc n:Nat) (cash:Nat→Int) (m:Nat→Nat) (d:Nat→Nat→Int):Prop:=(∀ i,i<nc→0≤cash i∧cash i≤1000)∧Debts n m d∧nc=n
set_option maxHeartbeats 2000000 in
set_option maxRecDepth 100000 in
theorem market_any (vc vd:Value) (nc n:Nat) (cash:Nat→Int) (m:Nat→Nat) (d:Nat→Nat→Int) (r:Bool) (hr:r=true↔Mkt nc n cash m d) (w:World) (hc:Ints w vc nc cash) (hd:Mat w vd n m d) (b1:nc≤1048576) (b2:n≤1048576) :
  Calls Tryz.prog 23 #[vc,vd] w fun e w'=>e = .returned (.bool r)∧Drawn w w':=by
 have HD:=Lib.hid hd
 obtain⟨da,db,d_o,dc,ra,rb,ro,rc,rfl,-⟩:=hd
 obtain⟨a,b,o,c,rfl,hs⟩:=hc
 have HR:=Lib.hid hr
 have HS:=Lib.hid hs
 clear hr hs
 go_enter Tryz.func23,Tryz.ntmps23
 go_wp2
 go_loopw [5] (fun v4 wr=>∃ k:Nat,k≤nc∧v4 = .int .i64 (k:Nat)∧Hid (∀ i,i<k→0≤cash i∧cash i≤1000)∧Hid (Drawn w wr)) (fun v4 _=>nc - (intOf v4).toNat)
 case atStart=>exact⟨0,by omega,rfl,Lib.hid (fun i hi=>by omega),Lib.hid (Drawn.refl _)⟩
 case round=>
  obtain⟨k,hk,rfl,HG,hd⟩:=hrel
  by_cases h:k<nc
  ·have hix:=fun W=>ixI HS.out k c h W
   have hjc:=(HS.out.drawn hd.out).cell k h
   simp only [ic] at hjc
   by_cases h4:0≤cash k∧cash k≤1000
   ·have H4:=Lib.hid h4
    clear h4
    go_wp2_with (go_at_call 53;(with_reducible refine (in_any _ _ _ true (by simpa using H4.out) _).mono ?_);rintro e w1 ⟨rfl,rfl⟩)
    go_roundw
    case rel=>exact⟨k+1,by omega,by go_num,Lib.hid (ext_lt HG.out H4.out),hd⟩
    case measure=>simp [intOf];omega
   ·have H4:=Lib.hid h4
    clear h4
    obtain rfl:r=false:=bool_false HR.out (fun q=>H4.out (q.1 k h))
    go_wp2_with (go_at_call 53;(with_reducible refine (in_any _ _ _ false (by simpa using H4.out) _).mono ?_);rintro e w1 ⟨rfl,rfl⟩)
    go_ret
    exact⟨rfl,hd.out⟩
  ·obtain rfl:k=nc:=by omega
   by_cases hD:Debts n m d
   ·have HDB:=Lib.hid hD
    clear hD
    by_cases hn:k=n
    ·have HN:=Lib.hid hn
     obtain rfl:r=true:=HR.out.2 ⟨HG.out,HDB.out,hn⟩
     have e1:(((k:Nat):Int) == ((n:Nat):Int))=true:=by simp;omega
     clear hn
     go_wp2_with (go_at_call 54;(with_reducible refine (debts_any _ n m d true ⟨fun _=>HDB.out,fun _=>rfl⟩ _ (HD.out.drawn hd.out) b2).mono ?_);rintro e w1 ⟨rfl,hd1⟩)
     go_ret
     exact⟨rfl,hd.out.trans hd1⟩
    ·obtain rfl:r=false:=bool_false HR.out (fun q=>hn q.2.2)
     have e1:(((k:Nat):Int) == ((n:Nat):Int))=false:=by simp;omega
     clear hn
     go_wp2_with (go_at_call 54;(with_reducible refine (debts_any _ n m d true ⟨fun _=>HDB.out,fun _=>rfl⟩ _ (HD.out.drawn hd.out) b2).mono ?_);rintro e w1 ⟨rfl,hd1⟩)
     go_ret
     exact⟨rfl,hd.out.trans hd1⟩
   ·obtain rfl:r=false:=bool_false HR.out (fun q=>hD q.2.1)
    have HDB:=Lib.hid hD
    clear hD
    go_wp2_with (go_at_call 54;(with_reducible refine (debts_any _ n m d false ⟨fun e=>Bool.noConfusion e,fun h=>absurd h HDB.out⟩ _ (HD.out.drawn hd.out) b2).mono ?_);rintro e w1 ⟨rfl,hd1⟩)
    go_ret
    exact⟨rfl,hd.out.trans hd1⟩
set_option maxHeartbeats 2000000 in
set_option maxRecDepth 100000 in
theorem read_no (vc vd:Value) (nc n:Nat) (cash:Nat→Int) (m:Nat→Nat) (d:Nat→Nat→Int) (w:World) (hc:Ints w vc nc cash) (hd:Mat w vd n m d) (b1:nc≤1048576) (b2:n≤1048576) (b3:∀ i,i<n→m i≤1048576) (hno:¬ Mkt nc n cash m d) :
  Calls Tryz.prog 38 #[vc,vd] w fun e w'=>e = .returned (.tuple #[.pointer none,.bool false])∧Below w.heap.size w w':=by
 have HC:=Lib.hid hc
 have HD:=Lib.hid hd
 have HN:=Lib.hid hno
 have B3:=Lib.hid b3
 have KW:=Lib.hid (Below.refl w.heap.size w)
 obtain⟨da,db,d_o,dc,ra,rb,ro,rc,rfl,-⟩:=hd
 obtain⟨a,b,o,c,rfl,-⟩:=hc
 clear hno b3
 go_enter Tryz.func38,Tryz.ntmps38
 by_cases hD:Debts n m d
 ·have HDB:=Lib.hid hD
  clear hD
  by_cases hn:nc=n
  ·subst hn
   have hneq:(((nc:Nat):Int) != ((nc:Nat):Int))=false:=by simp
   have HW:Hid (¬ ∀ i,i<nc→0≤cash i∧cash i≤1000):=Lib.hid (fun q=>HN.out ⟨q,HDB.out,rfl⟩)
   go_wp2_with (first
    | (go_at_call 69;(with_reducible refine (square_any _ nc m d true ⟨fun _=>HDB.out,fun _=>rfl⟩ _ HD.out (by omega) B3.out).mono ?_);rintro e w1 ⟨rfl,hd1⟩;have KW:=Lib.hid (KW.out.trans (hd1.below _));have HC:=Lib.hid (HC.out.drawn hd1))
    | (go_at_call 70;(with_reducible refine (within_any _ nc cash false ⟨fun e=>Bool.noConfusion e,fun h=>absurd h HW.out⟩ _ HC.out b1).mono ?_);rintro e w2 ⟨rfl,hd2⟩;have KW:=Lib.hid (KW.out.trans (hd2.below _))))
   go_ret2
   exact⟨rfl,KW.out⟩
  ·have hneq:(((nc:Nat):Int) != ((n:Nat):Int))=true:=by simp;omega
   clear hn
   go_wp2_with (first
    | (go_at_call 69;(with_reducible refine (square_any _ n m d true ⟨fun _=>HDB.out,fun _=>rfl⟩ _ HD.out b2 B3.out).mono ?_);rintro e w1 ⟨rfl,hd1⟩;have KW:=Lib.hid (KW.out.trans (hd1.below _))))
   go_ret2
   exact⟨rfl,KW.out⟩
 ·have HDB:=Lib.hid hD
  clear hD
  go_wp2_with (first
   | (go_at_call 69;(with_reducible refine (square_any _ n m d false ⟨fun e=>Bool.noConfusion e,fun h=>absurd h HDB.out⟩ _ HD.out b2 B3.out).mono ?_);rintro e w1 ⟨rfl,hd1⟩;have KW:=Lib.hid (KW.out.trans (hd1.below _))))
  go_ret2
  exact⟨rfl,KW.out⟩
end Go.Proofs.YtgmopcncbpdniaaGreat
namespace Go.Proofs.YtgmopcncbpdniaaGreat
open Go.RowKit
theorem Mat.cong {w:World} {v:Value} {n:Nat} {m m':Nat→Nat} {f g:Nat→Nat→Int} (h:Mat w v n m f) (hm:∀ i,i<n→m i=m' i) (e:∀ i j,i<n→j<m' i→f i j=g i j):Mat w v n m' g:=by
 obtain⟨a,b,o,c,ra,rb,ro,rc,rfl,h2⟩:=h.row_len hm
 exact⟨a,b,o,c,ra,rb,ro,rc,rfl,⟨h2.top,fun i hi=>(h2.row i hi).congr (fun j hj=>by unfold ic;rw [e i j hi hj])⟩⟩
def inD (n:Nat) (d:Nat→Nat→Int) (i j:Nat):Int:=if i<n∧j<n then d i j else 0
theorem inD_debts {n:Nat} {m:Nat→Nat} {d:Nat→Nat→Int} (h:Debts n m d):Debts n (fun _=>n) (inD n d):=by
 refine⟨h.1,h.2.1,fun i hi=>⟨rfl,?_,fun j hj=>?_⟩⟩
 ·unfold inD;rw [if_pos ⟨hi,hi⟩];exact (h.2.2 i hi).2.1
 ·unfold inD;rw [if_pos ⟨hi,hj⟩];exact (h.2.2 i hi).2.2 j hj
theorem inD_pos {n:Nat} {m:Nat→Nat} {d:Nat→Nat→Int} (h:Debts n m d):∀ i j,0≤inD n d i j:=fun i j=>by
 unfold inD;split
 ·rename_i e;exact ((h.2.2 i e.1).2.2 j e.2).1
 ·omega
theorem inD_mat {w:World} {v:Value} {n:Nat} {m:Nat→Nat} {d:Nat→Nat→Int} (hm:Mat w v n m d) (h:Debts n m d):Mat w v n (fun _=>n) (inD n d):=
 hm.cong (fun i hi=>(h.2.2 i hi).1) (fun i j hi hj=>by unfold inD;rw [if_pos ⟨hi,hj⟩])
theorem cutM_small (m:Nat→Nat) (i:Nat):cutM m i≤1048576:=by unfold cutM;omega
end Go.Proofs.YtgmopcncbpdniaaGreat
