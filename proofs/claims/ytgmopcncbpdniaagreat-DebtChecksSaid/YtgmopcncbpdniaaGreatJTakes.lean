import Derived.Test.YtgmopcncbpdniaaGreatJLive1
import Derived.Laws.Cover3
import Derived.Test.YtgmopcncbpdniaaGreatJPlainD
import Derived.Test.YtgmopcncbpdniaaGreatJGen
import Derived.Test.YtgmopcncbpdniaaGreatJPlainR
import Derived.Test.YtgmopcncbpdniaaGreatJBase
import Derived.Deep.RegionHeld3
set_option linter.unusedVariables false
set_option linter.unusedSimpArgs false
namespace Go.Proofs.YtgmopcncbpdniaaGreat
open Go.RowKit
attribute [local go_sem ↓] Go.wp_at_zero Go.wp_at_succ
theorem eql_nil_some (x:Addr) (l c:Nat) (W:World):(binOp .eql 24 (.slice (some x) l c) (.slice none 0 0)).run Tryz.prog W = .ok (.bool false) W:=
 by
 simp only [binOp]
 simp [run_equal_slice_nil W 24 3 (some x) l c Tryz.underlying24]
theorem eql_nil_none (W:World):(binOp .eql 24 (.slice none 0 0) (.slice none 0 0)).run Tryz.prog W = .ok (.bool true) W:=
 by
 simp only [binOp]
 simp [run_equal_slice_nil W 24 3 none 0 0 Tryz.underlying24]
theorem rat_cmp_val (x y:Value) (a b:Rat) (k:Nat) (w:World) (c:Int) (hx:RatIs w x a k) (hy:RatIs w y b k) (hk:2*k≤549755813888) (hc:cmpQ a b=c) :
  Calls Tryz.prog 62 #[x,y] w fun e w'=>e = .returned (.int .i64 c)∧Below w.heap.size w w':=by
 subst hc
 exact rat_cmp x y a b k w hx hy hk
end Go.Proofs.YtgmopcncbpdniaaGreat
namespace Go.Proofs.YtgmopcncbpdniaaGreat
open Go.RowKit
theorem ext_lt {P:Nat→Prop} {k:Nat} (h:∀ i,i<k→P i) (hk:P k):∀ i,i<k+1→P i:=fun i hi=>by
 rcases Nat.lt_or_ge i k with q | q
 ·exact h i q
 ·obtain rfl:i=k:=by omega
  exact hk
theorem bool_false {r:Bool} {P:Prop} (h:r=true↔P) (hn:¬ P):r=false:=by
 cases r
 ·rfl
 ·exact absurd (h.1 rfl) hn
def Debts (n:Nat) (m:Nat→Nat) (f:Nat→Nat→Int):Prop:=1≤n∧n≤8∧∀ i,i<n→m i=n∧f i i=0∧∀ j,j<n→0≤f i j∧f i j≤1000
set_option maxHeartbeats 1000000 in
theorem debts_any (v:Value) (n:Nat) (m:Nat→Nat) (f:Nat→Nat→Int) (r:Bool) (hr:r=true↔Debts n m f) (w:World) (hv:Mat w v n m f) (hn:n≤1048576) :
  Calls Tryz.prog 54 #[v] w fun e w'=>e = .returned (.bool r)∧Drawn w w':=by
 obtain⟨a,b,o,c,ra,rb,ro,rc,rfl,hs⟩:=hv
 have HR:=Lib.hid hr
 clear hr
 go_enter Tryz.func54,Tryz.ntmps54
 go_wp2
 go_loopw [3,4] (fun i _ wr=>∃ k:Nat,k≤n∧i = .int .i64 (k:Nat)∧Hid (∀ i,i<k→m i=n∧f i i=0∧∀ j,j<n→0≤f i j∧f i j≤1000)∧Hid (Drawn w wr)) (fun i _ _=>n - (intOf i).toNat)
 case atStart=>exact⟨0,by omega,rfl,Lib.hid (fun i hi=>by omega),Lib.hid (Drawn.refl _)⟩
 case round=>
  obtain⟨k,hk,rfl,HG,hd⟩:=hrel
  by_cases h:k<n
  ·have hix:=fun W=>ixM hs.top k c h W
   have hc:=(hs.top.drawn hd.out).cell k h
   by_cases h1:m k=n
   ·have d1:(((m k:Nat):Int) != ((n:Nat):Int))=false:=by simp [h1]
    have hjx:=fun W=>ixI (hs.row k h) k (rc k) (by omega) W
    have hjc:=((hs.row k h).drawn hd.out).cell k (by omega)
    simp only [ic] at hjc
    have HM:=Lib.hid h1
    by_cases h2:f k k=0
    ·have d2:(f k k != 0)=false:=by simp [h2]
     have H2:=Lib.hid h2
     clear h1 h2
     go_wp2
     go_loopw [4] (fun j wr=>∃ l:Nat,l≤n∧j = .int .i64 (l:Nat)∧Hid (∀ j,j<l→0≤f k j∧f k j≤1000)∧Hid (Drawn w wr)) (fun j _=>n - (intOf j).toNat)
     case atStart=>exact⟨0,by omega,rfl,Lib.hid (fun i hi=>by omega),hd⟩
     case round=>
      obtain⟨l,hl,rfl,HL,hd2⟩:=hrel
      clear hjx hjc
      have hc2:=(hs.top.drawn hd2.out).cell k h
      by_cases h3:l<n
      ·have hjx:=fun W=>ixI (hs.row k h) l (rc k) (by rw [HM.out];exact h3) W
       have hjc:=((hs.row k h).drawn hd2.out).cell l (by rw [HM.out];exact h3)
       simp only [ic] at hjc
       by_cases h4:0≤f k l∧f k l≤1000
       ·have H4:=Lib.hid h4
        go_wp2_with (go_at_call 53;(with_reducible refine (in_any _ _ _ true (by simpa using H4.out) _).mono ?_);rintro e w1 ⟨rfl,rfl⟩)
        go_roundw
        case rel=>exact⟨l+1,by omega,by go_num,Lib.hid (ext_lt HL.out H4.out),hd2⟩
        case measure=>simp [intOf];omega
       ·have H4:=Lib.hid h4
        clear h4
        obtain rfl:r=false:=bool_false HR.out (fun q=>H4.out ((q.2.2 k h).2.2 l h3))
        go_wp2_with (go_at_call 53;(with_reducible refine (in_any _ _ _ false (by simpa using H4.out) _).mono ?_);rintro e w1 ⟨rfl,rfl⟩)
        go_ret
        exact⟨rfl,hd2.out⟩
      ·obtain rfl:l=n:=by omega
       go_wp2
       go_roundw
       case rel=>exact⟨k+1,by omega,by go_num,Lib.hid (ext_lt HG.out ⟨HM.out,H2.out,HL.out⟩),hd2⟩
       case measure=>simp [intOf];omega
    ·have d2:(f k k != 0)=true:=by simpa using h2
     obtain rfl:r=false:=bool_false HR.out (fun q=>h2 (q.2.2 k h).2.1)
     clear h1 h2
     go_wp2
     go_ret
     exact⟨rfl,hd.out⟩
   ·have d1:(((m k:Nat):Int) != ((n:Nat):Int))=true:=by simp;omega
    obtain rfl:r=false:=bool_false HR.out (fun q=>h1 (q.2.2 k h).1)
    clear h1
    go_wp2
    go_ret
    exact⟨rfl,hd.out⟩
  ·obtain rfl:k=n:=by omega
   by_cases h5:1≤k∧k≤8
   ·obtain rfl:r=true:=HR.out.2 ⟨h5.1,h5.2,HG.out⟩
    go_wp2_with (go_at_call 53;(with_reducible refine (in_any _ _ _ true (by simp;omega) _).mono ?_);rintro e w1 ⟨rfl,rfl⟩)
    go_ret
    exact⟨rfl,hd.out⟩
   ·obtain rfl:r=false:=bool_false HR.out (fun q=>h5 ⟨q.1,q.2.1⟩)
    go_wp2_with (go_at_call 53;(with_reducible refine (in_any _ _ _ false (by simp;omega) _).mono ?_);rintro e w1 ⟨rfl,rfl⟩)
    go_ret
    exact⟨rfl,hd.out⟩
end Go.Proofs.YtgmopcncbpdniaaGreat
namespace Go.Proofs.YtgmopcncbpdniaaGreat
open Go.RowKit
theorem cf_w_yes (x:Int) (w:World) (h:(x<0∨1000<x)):Calls Tryz.prog 112 #[.int .i64 x] w fun e w'=>e = .returned (.bool true)∧w=w':=by
 by_cases h1:x<0
 ·have d1:decide (x<0)=true:=by simpa using h1
  go_enter Tryz.func112,Tryz.ntmps112
  go_wp2
  go_ret
  exact⟨rfl,rfl⟩
 ·have d1:decide (x<0)=false:=by simpa using h1
  have d2:decide (1000<x)=true:=by simp;omega
  go_enter Tryz.func112,Tryz.ntmps112
  go_wp2
  go_ret
  exact⟨rfl,rfl⟩
theorem cf_w_no (x:Int) (w:World) (h:¬ (x<0∨1000<x)):Calls Tryz.prog 112 #[.int .i64 x] w fun e w'=>e = .returned (.bool false)∧w=w':=by
 have d1:decide (x<0)=false:=by simp;omega
 have d2:decide (1000<x)=false:=by simp;omega
 clear h
 go_enter Tryz.func112,Tryz.ntmps112
 go_wp2
 go_ret
 exact⟨rfl,rfl⟩
theorem cf_w_hit (v:Value) (n:Nat) (f:Nat→Int) (w:World) (hv:Ints w v n f) (hn:n≤1048576) (hit:∃ i,i<n∧(f i<0∨1000<f i)) :
  Calls Tryz.prog 137 #[v,.func (.func 112) #[] #[]] w fun e w'=>∃ z:Nat,e = .returned (.int .i64 (z:Nat))∧Drawn w w':=by
 obtain⟨a,b,o,c,rfl,hs⟩:=hv
 have HH:=Lib.hid hit
 clear hit
 go_enter Tryz.func137,Tryz.ntmps137
 go_wp2
 go_loopw [5,8] (fun _ i wr=>∃ k:Nat,k≤n∧i = .int .i64 (k:Nat)∧Hid (∀ i,i<k→¬ (f i<0∨1000<f i))∧Hid (Drawn w wr)) (fun _ i _=>n - (intOf i).toNat)
 case atStart=>exact⟨0,by omega,rfl,Lib.hid (fun i hi=>by omega),Lib.hid (Drawn.refl _)⟩
 case round=>
  obtain⟨k,hk,rfl,HG,hd⟩:=hrel
  by_cases h:k<n
  ·have hix:=fun W=>ixI hs k c h W
   have hc:=(hs.drawn hd.out).cell k h
   simp only [ic] at hc
   by_cases hb:(f k<0∨1000<f k)
   ·have HB:=Lib.hid hb
    clear hb
    go_wp2_with (go_at_call 112;(with_reducible refine (cf_w_yes _ _ HB.out).mono ?_);rintro e w' ⟨rfl,rfl⟩)
    go_ret
    exact⟨k,rfl,hd.out⟩
   ·have HB:=Lib.hid hb
    clear hb
    go_wp2_with (go_at_call 112;(with_reducible refine (cf_w_no _ _ HB.out).mono ?_);rintro e w' ⟨rfl,rfl⟩)
    go_roundw
    case rel=>exact⟨k+1,by omega,by go_num,Lib.hid (ext_lt HG.out HB.out),hd⟩
    case measure=>simp [intOf];omega
  ·exfalso
   obtain⟨i,hi,hb⟩:=HH.out
   exact HG.out i (by omega) hb
theorem cf_w_miss (v:Value) (n:Nat) (f:Nat→Int) (w:World) (hv:Ints w v n f) (hn:n≤1048576) (miss:∀ i,i<n→¬ (f i<0∨1000<f i)) :
  Calls Tryz.prog 137 #[v,.func (.func 112) #[] #[]] w fun e w'=>e = .returned (.int .i64 (-1))∧Drawn w w':=by
 obtain⟨a,b,o,c,rfl,hs⟩:=hv
 have HH:=Lib.hid miss
 clear miss
 go_enter Tryz.func137,Tryz.ntmps137
 go_wp2
 go_loopw [5,8] (fun _ i wr=>∃ k:Nat,k≤n∧i = .int .i64 (k:Nat)∧Hid (Drawn w wr)) (fun _ i _=>n - (intOf i).toNat)
 case atStart=>exact⟨0,by omega,rfl,Lib.hid (Drawn.refl _)⟩
 case round=>
  obtain⟨k,hk,rfl,hd⟩:=hrel
  by_cases h:k<n
  ·have hix:=fun W=>ixI hs k c h W
   have hc:=(hs.drawn hd.out).cell k h
   simp only [ic] at hc
   have HB:=Lib.hid (HH.out k h)
   go_wp2_with (go_at_call 112;(with_reducible refine (cf_w_no _ _ HB.out).mono ?_);rintro e w' ⟨rfl,rfl⟩)
   go_roundw
   case rel=>exact⟨k+1,by omega,by go_num,hd⟩
   case measure=>simp [intOf];omega
  ·go_wp2
   go_ret
   exact⟨rfl,hd.out⟩
theorem cf_w_any (v:Value) (n:Nat) (f:Nat→Int) (r:Bool) (hr:r=true↔∃ i,i<n∧(f i<0∨1000<f i)) (w:World) (hv:Ints w v n f) (hn:n≤1048576) :
  Calls Tryz.prog 111 #[v,.func (.func 112) #[] #[]] w fun e w'=>e = .returned (.bool r)∧Drawn w w':=by
 have HV:=Lib.hid hv
 obtain⟨a,b,o,c,rfl,hs⟩:=hv
 clear hs
 cases r with
 | true=>
  have HH:=Lib.hid (hr.1 rfl)
  clear hr
  go_enter Tryz.func111,Tryz.ntmps111
  go_wp2_with (go_at_call 137;(with_reducible refine (cf_w_hit _ n f _ HV.out hn HH.out).mono ?_);rintro e w' ⟨z,rfl,hd⟩;have hz:decide ((0:Int)≤(z:Int))=true:=(by simp))
  go_ret
  exact⟨rfl,hd⟩
 | false=>
  have HH:=Lib.hid (show ∀ i,i<n→¬ (f i<0∨1000<f i) from fun i hi hb=>by have:=hr.2 ⟨i,hi,hb⟩;cases this)
  clear hr
  go_enter Tryz.func111,Tryz.ntmps111
  go_wp2_with (go_at_call 137;(with_reducible refine (cf_w_miss _ n f _ HV.out hn HH.out).mono ?_);rintro e w' ⟨rfl,hd⟩)
  go_ret
  exact⟨rfl,hd⟩
theorem within_any (v:Value) (n:Nat) (f:Nat→Int) (r:Bool) (hr:r=true↔∀ i,i<n→0≤f i∧f i≤1000) (w:World) (hv:Ints w v n f) (hn:n≤1048576) :
  Calls Tryz.prog 70 #[v] w fun e w'=>e = .returned (.bool r)∧Drawn w w':=by
 have HV:=Lib.hid hv
 obtain⟨a,b,o,c,rfl,hs⟩:=hv
 clear hs
 have HH:Hid ((!r)=true↔∃ i,i<n∧(f i<0∨1000<f i)):=Lib.hid (by
  cases r
  ·simp only [Bool.not_false,true_iff]
   apply Classical.byContradiction
   intro hne
   have:false=true:=hr.2 fun i hi=>by
    apply Classical.byContradiction
    intro hx
    exact hne ⟨i,hi,by omega⟩
   cases this
  ·simp only [Bool.not_true,Bool.false_eq_true,false_iff]
   rintro ⟨i,hi,hx⟩
   have:=hr.1 rfl i hi
   omega)
 clear hr
 obtain⟨q,rfl⟩:∃ q,r = !q:=⟨!r,by simp⟩
 rw [Bool.not_not] at HH
 go_enter Tryz.func70,Tryz.ntmps70
 go_wp2_with (go_at_call 111;(with_reducible refine (cf_w_any _ n f q HH.out _ HV.out hn).mono ?_);rintro e w' ⟨rfl,hd⟩)
 go_ret
 exact⟨rfl,hd⟩
set_option maxHeartbeats 1000000 in
theorem square_any (v:Value) (n:Nat) (m:Nat→Nat) (f:Nat→Nat→Int) (r:Bool) (hr:r=true↔Debts n m f) (w:World) (hv:Mat w v n m f) (hn:n≤1048576) (hm:∀ i,i<n→m i≤1048576) :
  Calls Tryz.prog 69 #[v] w fun e w'=>e = .returned (.bool r)∧Drawn w w':=by
 obtain⟨a,b,o,c,ra,rb,ro,rc,rfl,hs⟩:=hv
 have HR:=Lib.hid hr
 have HMM:=Lib.hid hm
 clear hr hm
 by_cases h1:n<1
 ·obtain rfl:r=false:=bool_false HR.out (fun q=>by have:=q.1;omega)
  have d1:decide ((n:Int)<1)=true:=by simp;omega
  clear h1
  go_enter Tryz.func69,Tryz.ntmps69
  go_wp2
  go_ret
  exact⟨rfl,Drawn.refl _⟩
 ·have d1:decide ((n:Int)<1)=false:=by simp;omega
  by_cases h8:8<n
  ·obtain rfl:r=false:=bool_false HR.out (fun q=>by have:=q.2.1;omega)
   have d2:decide ((8:Int)<(n:Int))=true:=by simp;omega
   clear h1 h8
   go_enter Tryz.func69,Tryz.ntmps69
   go_wp2
   go_ret
   exact⟨rfl,Drawn.refl _⟩
  ·have d2:decide ((8:Int)<(n:Int))=false:=by simp;omega
   have HN:=Lib.hid (show 1≤n∧n≤8 by omega)
   clear h1 h8
   go_enter Tryz.func69,Tryz.ntmps69
   go_wp2
   go_loopw [3,4,15] (fun _ _ i wr=>∃ k:Nat,k≤n∧i = .int .i64 (k:Nat)∧Hid (∀ i,i<k→m i=n∧f i i=0∧∀ j,j<n→0≤f i j∧f i j≤1000)∧Hid (Drawn w wr)) (fun _ _ i _=>n - (intOf i).toNat)
   case atStart=>exact⟨0,by omega,rfl,Lib.hid (fun i hi=>by omega),Lib.hid (Drawn.refl _)⟩
   case round=>
    obtain⟨k,hk,rfl,HG,hd⟩:=hrel
    by_cases h:k<n
    ·have hix:=fun W=>ixM hs.top k c h W
     have hc:=(hs.top.drawn hd.out).cell k h
     by_cases h1:m k=n
     ·have d3:(((m k:Nat):Int) != ((n:Nat):Int))=false:=by simp [h1]
      have HM:=Lib.hid h1
      have HRow:Hid (Ints wr (.slice (ra k) (m k) (rc k)) (m k) (f k)):=Lib.hid ⟨ra k,rb k,ro k,rc k,rfl,(hs.row k h).drawn hd.out⟩
      have hmk:=HMM.out k h
      by_cases h2:∀ j,j<m k→0≤f k j∧f k j≤1000
      ·have H2:=Lib.hid h2
       have hjx:=fun W=>ixI (hs.row k h) k (rc k) (by omega) W
       have hjc0:=Lib.hid ((hs.row k h).cell k (by omega))
       have HSL:=Lib.hid ((hs.row k h).lt (by omega))
       clear h1 h2
       have HD0:=hd
       by_cases h3:f k k=0
       ·have d4:(f k k != 0)=false:=by simpa using h3
        have H3:=Lib.hid h3
        clear h3
        go_wp2_with (go_at_call 70;(with_reducible refine (within_any _ (m k) (f k) true ⟨fun _=>H2.out,fun _=>rfl⟩ _ HRow.out hmk).mono ?_);rintro e w1 ⟨rfl,hd1⟩;have hd:=Lib.hid (hd.out.trans hd1);have hjc:=(hd.out.below w.heap.size).cell (p:=⟨rb k,ro k+k,none⟩) HSL.out;rw [hjc0.out] at hjc;simp only [ic] at hjc)
        go_roundw
        case rel=>exact⟨k+1,by omega,by go_num,Lib.hid (ext_lt HG.out ⟨HM.out,H3.out,fun j hj=>H2.out j (by rw [HM.out];exact hj)⟩),hd⟩
        case measure=>simp [intOf];omega
       ·have d4:(f k k != 0)=true:=by simpa using h3
        obtain rfl:r=false:=bool_false HR.out (fun q=>h3 (q.2.2 k h).2.1)
        clear h3
        go_wp2_with (go_at_call 70;(with_reducible refine (within_any _ (m k) (f k) true ⟨fun _=>H2.out,fun _=>rfl⟩ _ HRow.out hmk).mono ?_);rintro e w1 ⟨rfl,hd1⟩;have hd:=Lib.hid (hd.out.trans hd1);have hjc:=(hd.out.below w.heap.size).cell (p:=⟨rb k,ro k+k,none⟩) HSL.out;rw [hjc0.out] at hjc;simp only [ic] at hjc)
        go_ret
        exact⟨rfl,hd.out⟩
      ·obtain rfl:r=false:=bool_false HR.out (fun q=>h2 (fun j hj=>(q.2.2 k h).2.2 j (by rw [←h1];exact hj)))
       have H2:=Lib.hid h2
       clear h1 h2
       go_wp2_with (go_at_call 70;(with_reducible refine (within_any _ (m k) (f k) false ⟨fun q=>(by cases q),fun q=>absurd q H2.out⟩ _ HRow.out hmk).mono ?_);rintro e w1 ⟨rfl,hd1⟩;have hd:=Lib.hid (hd.out.trans hd1))
       go_ret
       exact⟨rfl,hd.out⟩
     ·have d3:(((m k:Nat):Int) != ((n:Nat):Int))=true:=by simp;omega
      obtain rfl:r=false:=bool_false HR.out (fun q=>h1 (q.2.2 k h).1)
      clear h1
      go_wp2
      go_ret
      exact⟨rfl,hd.out⟩
    ·obtain rfl:k=n:=by omega
     obtain rfl:r=true:=HR.out.2 ⟨HN.out.1,HN.out.2,HG.out⟩
     go_wp2
     go_ret
     exact⟨rfl,hd.out⟩
end Go.Proofs.YtgmopcncbpdniaaGreat
namespace Go.Proofs.YtgmopcncbpdniaaGreat
open Go.RowKit
attribute [local go_sem ↓] Go.wp_at_zero Go.wp_at_succ
theorem Mat.row_len {w:World} {v:Value} {n:Nat} {m m':Nat→Nat} {f:Nat→Nat→Int} (h:Mat w v n m f) (hm:∀ i,i<n→m i=m' i):Mat w v n m' f:=by
 obtain⟨a,b,o,c,ra,rb,ro,rc,rfl,h⟩:=h
 exact⟨a,b,o,c,ra,rb,ro,rc,rfl,⟨h.top.congr (fun i hi=>by rw [hm i hi]),fun i hi=>by rw [←hm i hi];exact h.row i hi⟩⟩
theorem Own4.put3 {w:World} {b:Nat} {x y z u:Value} (h:Own4 w b x y z u) (v:Value):Own4 (w.setCell ⟨b,3,none⟩ v) b x y z v:=
 ⟨off_set (by decide) h.c0,off_set (by decide) h.c1,off_set (by decide) h.c2,self_set h.c3,fun o=>by rw [World.frozen?_setCell];exact h.f o,by simp only [World.setCell,Array.size_modify];exact h.lt⟩
theorem own_block {w w':World} {b:Nat} {row:Option Nat} {x y z u:Value} (h:Own4 w b x y z u) (hg:w.grownBy w' row) (hne:some b≠row):Own4 w' b x y z u:=
 have e:=hg.block b h.lt hne
 have c:∀ o,w'.cell? ⟨b,o,none⟩=w.cell? ⟨b,o,none⟩:=fun o=>World.cell?_of_block (a:=⟨b,o,none⟩) e
 ⟨(c 0).trans h.c0,(c 1).trans h.c1,(c 2).trans h.c2,(c 3).trans h.c3,fun o=>(World.frozen?_of_block (a:=⟨b,o,none⟩) e).trans (h.f o),Nat.lt_of_lt_of_le h.lt hg.size⟩
set_option maxHeartbeats 4000000 in
set_option maxRecDepth 100000 in
theorem read_ok (vc vd:Value) (n:Nat) (cash:Nat→Int) (m:Nat→Nat) (d:Nat→Nat→Int) (w:World) (hc:Ints w vc n cash) (hd:Mat w vd n m d) (hD:Debts n m d) (hC:∀ i,i<n→0≤cash i∧cash i≤1000) :
  Calls Tryz.prog 38 #[vc,vd] w fun e w'=>∃ b vt,e = .returned (.tuple #[.pointer (some ⟨b,0,none⟩),.bool true])∧IsMkt w' b n cash d vc vd vt∧Below w.heap.size w w':=by
 have HC:=Lib.hid hc
 have HDM:=Lib.hid hd
 have HDB:=Lib.hid hD
 have HCB:=Lib.hid hC
 have hn8:n≤8:=hD.2.1
 obtain⟨ca,cb,co,cc,rfl,hcs⟩:=hc
 obtain⟨da,db,d_o,dc,ra,rb,ro,rc,rfl,hdm⟩:=hd
 have HM:=Lib.hid (show ∀ i,i<n→m i=n from fun i hi=>(hD.2.2 i hi).1)
 have HV:=Lib.hid (show ∀ i j,i<n→j<n→0≤d i j∧d i j≤1000 from fun i j hi hj=>(hD.2.2 i hi).2.2 j hj)
 have hneq:(((n:Nat):Int) != ((n:Nat):Int))=false:=by simp
 obtain⟨i0,hi,hz0,hz1,hz2⟩:=info_parts infoI
 clear hD hC hcs
 go_enter Tryz.func38,Tryz.ntmps38
 go_wp2_with (first
  | (go_at_call 69;(with_reducible refine (square_any _ n m d true ⟨fun _=>HDB.out,fun _=>rfl⟩ _ HDM.out (by omega) (fun i hi=>by rw [HM.out i hi];omega)).mono ?_);rintro e w1 ⟨rfl,hd1⟩)
  | (go_at_call 70;(with_reducible refine (within_any _ n cash true ⟨fun _=>HCB.out,fun _=>rfl⟩ _ (HC.out.drawn hd1) (by omega)).mono ?_);rintro e w2 ⟨rfl,hd2⟩))
 have hsz:w.heap.size=w2.heap.size:=by obtain⟨k1,rfl⟩:=hd1;obtain⟨k2,rfl⟩:=hd2;simp
 have KW:=Lib.hid (((hd1.below w.heap.size).trans (hd2.below w.heap.size)).alloc (Nat.le_of_eq hsz) (.cells #[.int .i64 (n:Nat),.slice ca n cc,.slice da n dc,.slice none 0 0] 87))
 have PM:=Lib.hid (own4_new w2 _ rfl (.int .i64 (n:Nat)) (.slice ca n cc) (.slice da n dc) (.slice none 0 0) 87)
 generalize hmb:w2.heap.size=mb at *
 have hmb2:=Lib.hid hmb
 clear hmb
 go_loopw [35] (fun v35 wr=>∃ k:Nat,k≤n∧v35 = .int .i64 (k:Nat)∧∃ va vk,Hid (wr.ownsRow (mb+1) 3 1 (.slice va k vk) k (ics (fun i=>sumF (d i) n) k))∧Hid (Own4 wr mb (.int .i64 (n:Nat)) (.slice ca n cc) (.slice da n dc) (.slice va k vk))∧Hid (Below w.heap.size w wr)) (fun v35 _=>n - (intOf v35).toNat)
 case atStart=>exact⟨0,by omega,rfl,none,0,Lib.hid (World.ownsRow_nil _ _ _ _),PM,KW⟩
 case round=>
  clear PM KW
  obtain⟨k,hk,rfl,va,vk,OW,PM,KW⟩:=hrel
  by_cases h:k<n
  ·have hdr:=hdm.mono KW.out (Nat.le_refl _)
   have hix:=fun W=>ixM hdr.top k dc h W
   have hcr:=hdr.top.cell k h
   have hrow:=hdr.row k h
   have HROW:=Lib.hid hrow
   have hmk:=HM.out k h
   rw [hmk] at hcr
   clear hdr hrow hmk
   obtain⟨p0,p1,p2,p3,pf,pl⟩:=PM.out
   go_wp2
   go_loop [9,41] (fun v9 v41=>∃ l:Nat,l≤n∧v41 = .int .i64 (l:Nat)∧v9 = .int .i64 (sumF (d k) l)) (fun _ v41=>n - (intOf v41).toNat)
   case atStart=>exact⟨0,by omega,rfl,rfl⟩
   case round=>
    obtain⟨l,hl,rfl,rfl⟩:=hrel
    by_cases h2:l<n
    ·have hrow:=HROW.out
     rw [HM.out k h] at hrow
     have hjx:=fun W=>ixI hrow l (rc k) h2 W
     have hjc:=hrow.cell l h2
     simp only [ic] at hjc
     obtain⟨v1,v2⟩:=HV.out k l h h2
     obtain⟨s1,s2⟩:=sumF_bound (d k) l 1000 (fun i hi=>by have:=HV.out k i h (by omega);omega)
     have s3 : -(8000:Int)≤sumF (d k) l:=by omega
     have s4:sumF (d k) l≤8000:=by omega
     clear s1 s2 hrow
     go_wp2
     go_round
     case rel=>exact⟨l+1,by omega,by go_num,rfl⟩
     case measure=>simp [intOf];omega
    ·obtain rfl:l=n:=by omega
     clear hix hcr
     have hbase:mb+1≤(wr.alloc (.cells #[.int .i64 (sumF (d k) l)] 3)).heap.size:=by simp;omega
     have hnews:∀ j u,[Value.int .i64 (sumF (d k) l)][j]? = some u→(wr.alloc (.cells #[.int .i64 (sumF (d k) l)] 3)).cell? ((⟨wr.heap.size,0,none⟩:Addr).add j)=some u:=fun j u hj=>by
      match j,hj with
      | 0,hj=>simp at hj;subst hj;simp [go_sem,Addr.add]
     have hone:∀ u ∈ [Value.int .i64 (sumF (d k) l)],u.oneCell'=true:=fun u hu=>by simp at hu;subst hu;rfl
     have HBS:=Lib.hid hbase
     have HNW:=Lib.hid hnews
     have HON:=Lib.hid hone
     clear hbase hnews hone
     go_wp2_with (at_builtin;refine wpList_append_own _ rfl (.tmp 53) (.tmp 55) 24 rfl (mb+1) 3 i0 (.int .i64 0) 1 8 Tryz.underlying24 hi hz0 hz1 hz2 rfl (by decide) (.slice va k vk) k (ics (fun i=>sumF (d i) l) k) rfl (OW.out.alloc _) ⟨wr.heap.size,0,none⟩ 1 1 [.int .i64 (sumF (d k) l)] rfl rfl HNW.out HON.out (by unfold maxLen;omega) (by omega) HBS.out ?_;intro v' w3 hown hgrow _;have hbk:=(OW.out.alloc (.cells #[.int .i64 (sumF (d k) l)] 3)).lt;have PM:=Lib.hid (own_block (PM.out.alloc _) hgrow (fun e=>by have:=(hbk mb e.symm).1;omega));have KW:=Lib.hid ((KW.out.alloc KW.out.size _).grown hgrow (by have:=KW.out.size;simp;omega) (fun kk e=>by have:=(hbk kk e).1;have:=hmb2.out;omega));rw [ics_succ] at hown;obtain⟨va',vk',rfl⟩:=own_shape hown;have OW:=Lib.hid hown;obtain⟨q0,q1,q2,q3,qf,ql⟩:=PM.out;clear hown hgrow hbk)
     go_roundw
     case rel=>
      refine⟨k+1,by omega,by go_num,va',vk',?_,?_,?_⟩
      ·exact Lib.hid (OW.out.kept (row:=some mb) (grown_set (World.grownBy.refl _ _) 3 _) (by
        rcases hb:(Value.slice va' (k+1) vk').ownBlock with _ | g
        ·exact .inl rfl
        ·right;intro e;have:=(OW.out.lt g hb).1;have e2:=Option.some.inj e;omega))
      ·exact Lib.hid (PM.out.put3 _)
      ·exact Lib.hid (KW.out.setCell (by show w.heap.size≤mb;omega) _)
     case measure=>simp [intOf];omega
  ·obtain rfl:k=n:=by omega
   go_wp2
   go_ret2
   refine⟨mb,_,rfl,⟨PM.out.c0,PM.out.c1,PM.out.c2,PM.out.c3,HC.out.mono KW.out (Nat.le_refl _),?_,ints_of_own OW.out,PM.out.lt⟩,KW.out⟩
   have h:=HDM.out.mono KW.out (Nat.le_refl _)
   exact h.row_len HM.out
end Go.Proofs.YtgmopcncbpdniaaGreat
namespace Go.Proofs.YtgmopcncbpdniaaGreat
open Go.RowKit
attribute [local go_sem ↓] Go.wp_at_zero Go.wp_at_succ
theorem own_below {w w':World} {base B e size n:Nat} {v:Value} {xs:List Value} (h:w.ownsRow base e size v n xs) (hb:Below B w w') (hB:w.heap.size≤B:=by exact Nat.le_refl _):w'.ownsRow base e size v n xs:=
 h.kept (row:=none) ⟨hb.os,hb.tape,hb.output,hb.size,fun k hk _=>hb.block k (Nat.lt_of_lt_of_le hk hB)⟩ (by
  rcases hh:v.ownBlock with _ | g
  ·exact .inl rfl
  ·exact .inr (by intro e;cases e))
def digS (N:Nat):ByteArray:=⟨#[48+UInt8.ofNat N]⟩
theorem digS_size (N:Nat):(digS N).size=1:=rfl
theorem infoN:(Tryz.prog.info? 63).map (fun i=>(i.zero,i.size,i.bytes))=some (some (.string ByteArray.empty),1,16):=by kernel_rfl
end Go.Proofs.YtgmopcncbpdniaaGreat
namespace Go.Proofs.YtgmopcncbpdniaaGreat
open Go.RowKit
attribute [local go_sem ↓] Go.wp_at_zero Go.wp_at_succ
def strL (ss:Nat→ByteArray) (n:Nat):List Value:=(List.range n).map (fun i=>.string (ss i))
theorem strL_get (ss:Nat→ByteArray) (n i:Nat) (h:i<n):(strL ss n)[i]? = some (.string (ss i)):=by simp [strL,h]
def setS (ss:Nat→ByteArray) (k:Nat) (s:ByteArray) (i:Nat):ByteArray:=if i=k then s else ss i
theorem strL_succ (ss:Nat→ByteArray) (k:Nat) (s:ByteArray):strL ss k ++ [.string s]=strL (setS ss k s) (k+1):=by
 unfold strL
 rw [List.range_succ,List.map_append]
 congr 1
 ·apply List.map_congr_left
  intro i hi
  have:i<k:=List.mem_range.1 hi
  simp [setS,show i≠k by omega]
 ·simp [setS]
structure TxtsOf (n:Nat) (q:Nat→Rat) (ss:Nat→ByteArray):Prop where
 txt:∀ j,j<n→FracTxt (ss j) (q j).num (q j).den
theorem TxtsOf.push {k:Nat} {q:Nat→Rat} {ss:Nat→ByteArray} {st:ByteArray} (h:TxtsOf k q ss) (hs:FracTxt st (q k).num (q k).den):TxtsOf (k+1) q (setS ss k st):=⟨fun j hj=>by
 unfold setS
 by_cases ej:j=k
 ·rw [if_pos ej,ej];exact hs
 ·rw [if_neg ej];exact h.txt j (by omega)⟩
set_option maxHeartbeats 2000000 in
set_option maxRecDepth 100000 in
theorem nums_any (pb n pc:Nat) (q:Nat→Rat) (K:Nat) (w:World) (hp:IsRats w pb 0 n q K) (hK:K≤1000000000) (hn:n≤1000) (hN:∀ j,j<n→MaxD (q j).num.natAbs∧MaxD (q j).den) :
  Calls Tryz.prog 40 #[.slice (some ⟨pb,0,none⟩) n pc] w fun e w'=>∃ va vk ss,e = .returned (.tuple #[.slice va n vk,.int .i64 0])∧TxtsOf n q ss∧w'.ownsRow w.heap.size 63 1 (.slice va n vk) n (strL ss n)∧Below w.heap.size w w':=by
 have HP:=Lib.hid hp
 have HN:=Lib.hid hN
 obtain⟨i0,hi,hz0,hz1,hz2⟩:=info_parts infoN
 have KW0:=Lib.hid (Below.refl w.heap.size w)
 clear hp hN
 go_enter Tryz.func40,Tryz.ntmps40
 go_wp2
 go_loopw [4,11] (fun v4 v11 wr=>∃ k:Nat,k≤n∧v11 = .int .i64 (k:Nat)∧∃ va vk ss,v4 = .slice va k vk∧Hid (TxtsOf k q ss)∧Hid (wr.ownsRow w.heap.size 63 1 (.slice va k vk) k (strL ss k))∧Hid (Below w.heap.size w wr)) (fun _ v11 _=>n - (intOf v11).toNat)
 case atStart=>exact⟨0,by omega,rfl,none,0,fun _=>ByteArray.empty,rfl,Lib.hid ⟨fun j hj=>by omega⟩,Lib.hid (World.ownsRow_nil _ _ _ _),KW0⟩
 case round=>
  clear KW0
  obtain⟨k,hk,rfl,va,vk,ss,rfl,TX,OW,KW⟩:=hrel
  by_cases h:k<n
  ·obtain⟨s,a,m,c,a2,m2,c2,PP,KP⟩:=(HP.out.mono KW.out (Nat.le_refl _)) k h
   rw [Nat.zero_add] at PP
   obtain⟨x0,x1,x2,x3,xl⟩:=PP
   have ixr:=fun W=>rowIx pb n pc k h W
   have HX:=Lib.hid (KP.mono (boxes1 wr (.cells #[.bool s,.slice a m c,.bool false,.slice a2 m2 c2] 92)) (Nat.le_refl _))
   have KW1:=Lib.hid (KW.out.alloc KW.out.size (.cells #[.bool s,.slice a m c,.bool false,.slice a2 m2 c2] 92))
   have OW1:=Lib.hid (OW.out.alloc (.cells #[.bool s,.slice a m c,.bool false,.slice a2 m2 c2] 92))
   have HNk:=Lib.hid (HN.out k h)
   clear KP
   go_wp2_with (first
    | (go_at_call 72;(with_reducible refine (rat_num_any _ (q k) K _ HX.out hK HNk.out.1 HNk.out.2).mono ?_);rintro e w2 ⟨st,rfl,hst,hb2⟩;have TX2:Hid (TxtsOf (k+1) q (setS ss k st)):=Lib.hid (TX.out.push hst);have KW2:=Lib.hid (KW1.out.trans (hb2.mono KW1.out.size));have OW2:=Lib.hid (own_below OW1.out hb2);have HB2:=Lib.hid (Nat.le_trans KW1.out.size hb2.size);clear hb2 hst)
    | (at_builtin;refine wpList_append_own _ rfl (.tmp 23) (.tmp 25) 28 rfl w.heap.size 63 i0 (.string ByteArray.empty) 1 16 Tryz.underlying28 hi hz0 hz1 hz2 rfl (by decide) (.slice va k vk) k (strL ss k) rfl (OW2.out.alloc _) ⟨w2.heap.size,0,none⟩ 1 1 [.string st] rfl rfl (new1 _ _ _) (one1 _ rfl) (by unfold maxLen;omega) (by omega) (by have:=HB2.out;simp;omega) ?_;intro v' w3 hown hgrow _;have hbk:=(OW2.out.alloc (.cells #[.string st] 63)).lt;have KW3:=Lib.hid ((KW2.out.alloc KW2.out.size _).grown hgrow (by have:=HB2.out;simp;omega) (fun kk e=>(hbk kk e).1));rw [strL_succ] at hown;obtain⟨va',vk',rfl⟩:=own_shape hown;have OW3:=Lib.hid hown;clear hown hgrow hbk))
   go_roundw
   case rel=>exact⟨k+1,by omega,by go_num,va',vk',_,rfl,TX2,OW3,KW3⟩
   case measure=>simp [intOf];omega
  ·obtain rfl:k=n:=by omega
   go_wp2
   go_ret2
   exact⟨va,vk,ss,rfl,TX.out,OW.out,KW.out⟩
end Go.Proofs.YtgmopcncbpdniaaGreat
namespace Go.Proofs.YtgmopcncbpdniaaGreat
open Go Go.RowKit
def takeB (ops:Array Oper) (L:Array Bool) (i:Nat):Bool:=Region.noSelect ops && (Region.free .any ops L i && (Region.ready .any ops L).contains i)
section
variable {P:Program} {ops:Array Oper} {Q:Exit→Act→World→Prop} {S:World→Prop}
theorem takeB_spec {L:Array Bool} {i:Nat} (h:takeB ops L i=true):Region.noSelect ops=true∧Region.free .any ops L i=true∧(Region.ready .any ops L).contains i=true:=by
 unfold takeB at h
 simp only [Bool.and_eq_true] at h
 exact h
def wpTk (P:Program) (ops:Array Oper) (Q:Exit→Act→World→Prop) (S:World→Prop) (is:List Nat) (f:Nat) (L:Array Bool) (a:Act) (w:World):Prop:=wpAnyH P .any ops Q S f L a w
theorem wtk_begin (is:List Nat) {f:Nat} {L:Array Bool} {a:Act} {w:World} (h:wpTk P ops Q S is f L a w):wpAnyH P .any ops Q S f L a w:=h
theorem wtk_end {f:Nat} {L:Array Bool} {a:Act} {w:World} (h:wpAnyH P .any ops Q S f L a w):wpTk P ops Q S [] f L a w:=h
theorem wtk {i:Nat} {is:List Nat} {oi:Oper} {v:Value} {f:Nat} {L:Array Bool} {a:Act} {w:World} (hi:ops[i]? = some oi) (hb:takeB ops L i=true)
  (hQ:∀ c a w,Q (.panic c) (a.put oi.dst v) w→Q (.panic c) a w) (hw:Region.wanted oi (yielded ops a.tmps)=true) (hv:∀ w,S w→(execOp a.eval oi).run P w = .ok (.value v) w) (hS:S w)
  (h:wpTk P ops Q S is f (L.setIfInBounds i true) (a.put oi.dst v) w):wpTk P ops Q S (i :: is) (f+1) L a w:=
 wpAnyH_take hi (takeB_spec hb).1 (takeB_spec hb).2.1 (takeB_spec hb).2.2 hQ (.inl ⟨hw,hv⟩) hS h
theorem wtk_un {i:Nat} {is:List Nat} {oi:Oper} {f:Nat} {L:Array Bool} {a:Act} {w:World} (hi:ops[i]? = some oi) (hb:takeB ops L i=true)
  (hQ:∀ c a w,Q (.panic c) (a.put oi.dst undef) w→Q (.panic c) a w) (hw:Region.wanted oi (yielded ops a.tmps)=false) (hS:S w)
  (h:wpTk P ops Q S is f (L.setIfInBounds i true) (a.put oi.dst undef) w):wpTk P ops Q S (i :: is) (f+1) L a w:=
 wpAnyH_take hi (takeB_spec hb).1 (takeB_spec hb).2.1 (takeB_spec hb).2.2 hQ (.inr ⟨hw,rfl⟩) hS h
end
end Go.Proofs.YtgmopcncbpdniaaGreat
