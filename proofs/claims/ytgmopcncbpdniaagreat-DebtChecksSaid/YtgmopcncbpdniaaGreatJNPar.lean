import Derived.Test.YtgmopcncbpdniaaGreatJPlainR
import Derived.Test.YtgmopcncbpdniaaGreatJInt2
import Derived.Test.YtgmopcncbpdniaaGreatJTakes
import Derived.Test.YtgmopcncbpdniaaGreatJRNum
import Derived.WalkLawsBesides
import Derived.Test.YtgmopcncbpdniaaGreatJShelf
import Derived.Deep.QuietTactic
import Derived.BigQuiet
import Derived.Test.YtgmopcncbpdniaaGreatJRat5
import Derived.Test.YtgmopcncbpdniaaGreatJBrow
import Derived.Deep.RegionHeld3
set_option linter.unusedVariables false
set_option linter.unusedSimpArgs false
namespace Go.Proofs.YtgmopcncbpdniaaGreat
open Go.RowKit
attribute [local go_sem ↓] Go.wp_at_zero Go.wp_at_succ
theorem empty_iff {s:ByteArray} : s.toList.isEmpty=true↔s.size=0:=by
 rw [bytes_list]
 constructor
 ·intro h
  show s.data.size=0
  rw [←Array.length_toList,List.isEmpty_iff.1 h];rfl
 ·intro h
  have h:s.data.size=0:=h
  rw [←Array.length_toList] at h
  rw [List.length_eq_zero_iff.1 h];rfl
theorem not_empty {s:ByteArray} (h:0<s.size):s.toList.isEmpty=false:=by
 cases e:s.toList.isEmpty
 ·rfl
 ·have:=empty_iff.1 e;omega
theorem limb_sl (w:World) (c:Nat):IsSl (w.alloc (.cells #[.int .u32 ((c:Nat):Int)] 145)) (some ⟨w.heap.size,0,none⟩) w.heap.size 0 1 1 (fun _=>.int .u32 ((c:Nat):Int)):=by
 refine⟨Nat.le_refl _,fun _=>rfl,fun _=>by simp,fun i hi=>?_,fun e=>by cases e⟩
 obtain rfl:i=0:=by omega
 simp [go_sem]
theorem limb_new (w:World) (c:Nat) (hc:c<4294967296):Mag (w.alloc (.cells #[.int .u32 ((c:Nat):Int)] 145)) (.slice (some ⟨w.heap.size,0,none⟩) (trimN (fun _=>c) 1) 1) c:=by
 have h:=trim_mag (w:=w.alloc (.cells #[.int .u32 ((c:Nat):Int)] 145)) (a:=some ⟨w.heap.size,0,none⟩) (b:=w.heap.size) (o:=0) (c:=1) (n:=1) (f:=fun _=>c) (fun _ _=>hc) (limb_sl w c)
 have e:valF (fun _=>c) 1=c:=by simp [valF]
 rw [e] at h
 exact h
set_option maxHeartbeats 8000000 in
set_option maxRecDepth 100000 in
theorem nread_any (s:ByteArray) (L:Nat) (f:Nat→Nat) (b:Bool) (w:World) (hs:Bts s L f) (hL:L≤1000000) (hb:b=true↔okD L f) :
  Calls Tryz.prog 104 #[.string s] w fun e w'=>∃ v,e = .returned (.tuple #[v,.bool b])∧Mag w' v (if b then numD L f else 0)∧Below w.heap.size w w':=by
 have HS:=Lib.hid hs
 obtain⟨rfl,hbt⟩:=hs
 have HB:=Lib.hid hbt
 have HOK:=Lib.hid hb
 clear hbt hb
 go_enter Tryz.func104,Tryz.ntmps104
 go_wp2
 go_loop [12] (fun v12=>∃ k:Nat,k≤s.size∧v12 = .int .i64 (k:Nat)∧Hid (∀ i,i<k→48≤f i∧f i≤57)) (fun v12=>s.size - (intOf v12).toNat)
 case atStart=>exact⟨0,by omega,rfl,Lib.hid (fun i hi=>by omega)⟩
 case round=>
  obtain⟨k,hk,rfl,HG⟩:=hrel
  by_cases h:k<s.size
  ·have e1:decide ((k:Int)<(s.size:Int))=true:=by simpa using h
   have e1n:decide (k<s.size)=true:=by simpa using h
   have q0:(0:Int)≤((k:Nat):Int):=by omega
   have q1:((k:Nat):Int)<(s.size:Int):=by omega
   have xi:=HB.out k h
   obtain⟨c,hc⟩:∃ c,c=f k:=⟨_,rfl⟩
   rw [←hc] at xi
   have HC:=Lib.hid hc
   clear hc
   by_cases g1:48≤c
   ·have d1:decide (((c:Nat):Int)<48)=false:=by simp;omega
    by_cases g2:c≤57
    ·have d2:decide ((57:Int)<((c:Nat):Int))=false:=by simp;omega
     have HCG:Hid (48≤f k∧f k≤57):=Lib.hid (by rw [←HC.out];exact⟨g1,g2⟩)
     clear g1 g2
     go_wp2
     go_round
     case rel=>exact⟨k+1,by omega,by go_num,Lib.hid (ext_lt HG.out HCG.out)⟩
     case measure=>simp [intOf];omega
    ·have d2:decide ((57:Int)<((c:Nat):Int))=true:=by simp;omega
     obtain rfl:b=false:=bool_false HOK.out (fun q=>by have:=q.2.2.2 k h;have:=HC.out;omega)
     clear g1 g2
     go_wp2
     go_ret2
     exact⟨_,rfl,mag_nil _,Below.refl _ _⟩
   ·have d1:decide (((c:Nat):Int)<48)=true:=by simp;omega
    obtain rfl:b=false:=bool_false HOK.out (fun q=>by have:=q.2.2.2 k h;have:=HC.out;omega)
    clear g1
    go_wp2
    go_ret2
    exact⟨_,rfl,mag_nil _,Below.refl _ _⟩
  ·obtain rfl:s.size=k:=by omega
   have e1:decide ((s.size:Int)<(s.size:Int))=false:=by simp
   rcases Nat.eq_zero_or_pos s.size with hz | hp
   ·have hemp:s.toList.isEmpty=true:=by rw [empty_iff];exact hz
    obtain rfl:b=false:=bool_false HOK.out (fun q=>by have:=q.1;omega)
    go_wp2
    go_ret2
    exact⟨_,rfl,mag_nil _,Below.refl _ _⟩
   ·have hemp:s.toList.isEmpty=false:=by
     cases e:s.toList.isEmpty
     ·rfl
     ·have:=empty_iff.1 e;omega
    have q0:(0:Int)<(s.size:Int):=by omega
    have x0:=HB.out 0 hp
    obtain⟨c,hc⟩:∃ c,c=f 0:=⟨_,rfl⟩
    rw [←hc] at x0
    have HC:=Lib.hid hc
    clear hc
    by_cases g:c=48
    ·subst g
     by_cases g2:1<s.size
     ·have d1:decide ((1:Int)<(s.size:Int))=true:=by simp;omega
      obtain rfl:b=false:=bool_false HOK.out (fun q=>q.2.2.1 ⟨HC.out.symm,g2⟩)
      go_wp2
      go_ret2
      exact⟨_,rfl,mag_nil _,Below.refl _ _⟩
     ·have d1:decide ((1:Int)<(s.size:Int))=false:=by simp;omega
      have d4:decide ((4000:Int)<(s.size:Int))=false:=by simp;omega
      obtain rfl:b=true:=HOK.out.2 ⟨by omega,by omega,fun q=>g2 q.2,HG.out⟩
      have g4:s.size≤4000:=by omega
      clear HOK
      have SS0:Hid (Bts s (s.size - 0) (fun i=>f (0+i))):=Lib.hid ⟨by omega,fun i h=>by have:=HB.out i h;simpa using this⟩
      have MG0:Hid (Mag w (.slice none 0 0) (valT (fun i=>dv (f i)) 0)):=Lib.hid (mag_nil _)
      have KW0:=Lib.hid (Below.refl w.heap.size w)
      go_wp2
      clear x0 hemp q0
      go_loopw [0,5] (fun v0 v5 wr=>∃ (k:Nat) (s':ByteArray),k≤s.size∧v0 = .string s'∧Hid (Bts s' (s.size - k) (fun i=>f (k+i)))∧Hid (Mag wr v5 (valT (fun i=>dv (f i)) k))∧Hid (Below w.heap.size w wr)) (fun v0 _ _=>match v0 with | .string t=>t.size | _=>0)
      case atStart=>exact⟨0,s,by omega,rfl,SS0,MG0,KW0⟩
      case round=>
       clear SS0 MG0 KW0
       obtain⟨k,s',hk,rfl,SS,MG,KW⟩:=hrel
       have hsz:=SS.out.1
       by_cases h2:k<s.size
       ·have hemp:=not_empty (s:=s') (by omega)
        obtain⟨N,hN⟩:∃ N,N=(s'.size - 1) % 9+1:=⟨_,rfl⟩
        have HNN:=Lib.hid hN
        have hNI:((s'.size:Int) - 1) % 9+1=(N:Int):=by omega
        have hN1:1≤N:=by omega
        have hN9:N≤9:=by omega
        have hNs:N≤s'.size:=by omega
        have hs4:s'.size≤4000:=by omega
        have hs0:1≤s'.size:=by omega
        clear hN
        go_wp2
        go_loop [7,8,51] (fun v7 v8 v51=>∃ i V P:Nat,i≤N∧v51 = .int .i64 (i:Nat)∧v7 = .int .u32 ((V:Nat):Int)∧v8 = .int .u32 ((P:Nat):Int)∧Hid (P=10 ^ i)∧Hid (V=valT (fun j=>dv (f (k+j))) i)) (fun _ _ v51=>N - (intOf v51).toNat)
        case atStart=>exact⟨0,0,1,by omega,rfl,rfl,rfl,Lib.hid rfl,Lib.hid rfl⟩
        case round=>
         obtain⟨i,V,P,hi,rfl,rfl,rfl,HP,HV⟩:=hrel
         have hVP:V<P:=by rw [HP.out,HV.out];exact valT_lt (fun j=>dv_lt _) i
         by_cases h3:i<N
         ·have e3:decide ((i:Int)<(N:Int))=true:=by simpa using h3
          have e3n:decide (i<N)=true:=by simpa using h3
          have hi8:i≤8:=by omega
          have hP8:P≤100000000:=by rw [HP.out];exact Nat.le_trans (Nat.pow_le_pow_right (by omega) hi8) (by decide)
          have his:i<s'.size:=by omega
          have q2:(0:Int)≤((i:Nat):Int):=by omega
          have q3:((i:Nat):Int)<(s'.size:Int):=by omega
          have xi:=SS.out.2 i his
          have hg:=HG.out (k+i) (by omega)
          obtain⟨c,hc⟩:∃ c,c=f (k+i):=⟨_,rfl⟩
          rw [←hc] at hg
          simp only [←hc] at xi
          have e4:=u8_dv c hg.1 hg.2
          obtain⟨c',hc'⟩:∃ c',c'=dv c:=⟨_,rfl⟩
          have hc9:c'<10:=by rw [hc'];exact dv_lt _
          rw [←hc'] at e4
          have HV2:Hid (10*V+c'=valT (fun j=>dv (f (k+j))) (i+1)):=Lib.hid (by
           rw [HV.out,hc',hc];rfl)
          have HP2:Hid (10*P=10 ^ (i+1)):=Lib.hid (by rw [HP.out,Nat.pow_succ];omega)
          clear hc hc' hg
          go_wp2
          go_round
          case rel=>exact⟨i+1,10*V+c',10*P,by omega,by go_num,by go_num,by go_num,HP2,HV2⟩
          case measure=>simp [intOf];omega
         ·obtain rfl:N=i:=by omega
          have e3:decide ((N:Int)<(N:Int))=false:=by simp
          have hP9:P≤1000000000:=by rw [HP.out];exact Nat.le_trans (Nat.pow_le_pow_right (by omega) hN9) (by decide)
          obtain⟨X,hX⟩:∃ X,X=valT (fun i=>dv (f i)) k:=⟨_,rfl⟩
          have HX:=Lib.hid hX
          have hXn:nl X≤4000:=Nat.le_trans ((nl_le X k).2 (by rw [hX];exact Nat.lt_of_lt_of_le (valT_lt (fun j=>dv_lt _) k) (Nat.pow_le_pow_left (by omega) k))) (by omega)
          rw [←hX] at MG
          have hPn:nl P≤1:=(nl_le P 1).2 (by omega)
          have hVn:nl V≤1:=(nl_le V 1).2 (by omega)
          have hXP:nl (X*P)≤4001:=Nat.le_trans (nl_mul_le X P) (by omega)
          have hT:trimN (fun _=>P) 1=1:=by unfold trimN;rw [if_neg (by omega)]
          have HL:=Lib.hid (limb_new wr P (by omega))
          rw [hT] at HL
          have KB:=Lib.hid (boxes1 wr (.cells #[.int .u32 ((P:Nat):Int)] 145))
          have MG:=Lib.hid (MG.out.mono KB.out (Nat.le_refl _))
          have KW:=Lib.hid (KW.out.trans (KB.out.mono KW.out.size))
          clear hT hX
          go_wp2_with (first
           | (go_at_call 129;(with_reducible refine (times_any _ _ X P _ MG.out HL.out (by omega)).mono ?_);rintro e w6 ⟨r6,rfl,hr6,hb6⟩;have KW:=Lib.hid (KW.out.trans (hb6.mono KW.out.size));have M6:=Lib.hid hr6;have L6:=Lib.hid (limb_new w6 V (by omega));have K6:=Lib.hid (boxes1 w6 (.cells #[.int .u32 ((V:Nat):Int)] 145));clear hr6 hb6)
           | (go_at_call 125;(with_reducible refine (trim_any (some ⟨w6.heap.size,0,none⟩) w6.heap.size 0 1 1 (fun _=>V) _ (by omega) (limb_sl w6 V)).mono ?_);rintro e w7 ⟨rfl,rfl⟩)
           | (go_at_call 126;(with_reducible refine (plus_any _ _ (X*P) V _ (M6.out.mono K6.out (Nat.le_refl _)) L6.out (by omega) (by omega)).mono ?_);rintro e w8 ⟨r8,rfl,hr8,hb8⟩;have KW:=Lib.hid ((KW.out.trans (K6.out.mono KW.out.size)).trans (hb8.mono (by have:=KW.out.size;have:=K6.out.size;omega)));have M8:=Lib.hid hr8;clear hr8 hb8))
          go_roundw
          case rel=>
           refine⟨k+N,s'.extract N s'.size,by omega,by rw [HNN.out,hsz],Lib.hid ?_,Lib.hid ?_,KW⟩
           ·have h:=bts_cut SS.out N (s.size - k) (by omega) (by omega) (g:=fun i=>f (k+N+i)) (fun j hj=>by simp only [Nat.add_assoc])
            rw [hsz]
            rw [show s.size - (k+N)=s.size - k - N by omega]
            exact h
           ·rw [valT_split,←HX.out,←HP.out,←HV.out];exact M8.out
          case measure=>simp;omega
       ·have hs0:s'.size=0:=by omega
        have hemp:s'.toList.isEmpty=true:=empty_iff.2 hs0
        obtain rfl:s.size=k:=by omega
        go_wp2
        go_ret2
        exact⟨_,rfl,MG.out,KW.out⟩
    ·have dc:((c:Int) == 48)=false:=by simp;omega
     by_cases g4:s.size≤4000
     ·have d4:decide ((4000:Int)<(s.size:Int))=false:=by simp;omega
      obtain rfl:b=true:=HOK.out.2 ⟨by omega,g4,fun q=>g (by rw [HC.out];exact q.1),HG.out⟩
      clear HOK
      have SS0:Hid (Bts s (s.size - 0) (fun i=>f (0+i))):=Lib.hid ⟨by omega,fun i h=>by have:=HB.out i h;simpa using this⟩
      have MG0:Hid (Mag w (.slice none 0 0) (valT (fun i=>dv (f i)) 0)):=Lib.hid (mag_nil _)
      have KW0:=Lib.hid (Below.refl w.heap.size w)
      go_wp2
      clear x0 hemp q0
      go_loopw [0,5] (fun v0 v5 wr=>∃ (k:Nat) (s':ByteArray),k≤s.size∧v0 = .string s'∧Hid (Bts s' (s.size - k) (fun i=>f (k+i)))∧Hid (Mag wr v5 (valT (fun i=>dv (f i)) k))∧Hid (Below w.heap.size w wr)) (fun v0 _ _=>match v0 with | .string t=>t.size | _=>0)
      case atStart=>exact⟨0,s,by omega,rfl,SS0,MG0,KW0⟩
      case round=>
       clear SS0 MG0 KW0
       obtain⟨k,s',hk,rfl,SS,MG,KW⟩:=hrel
       have hsz:=SS.out.1
       by_cases h2:k<s.size
       ·have hemp:=not_empty (s:=s') (by omega)
        obtain⟨N,hN⟩:∃ N,N=(s'.size - 1) % 9+1:=⟨_,rfl⟩
        have HNN:=Lib.hid hN
        have hNI:((s'.size:Int) - 1) % 9+1=(N:Int):=by omega
        have hN1:1≤N:=by omega
        have hN9:N≤9:=by omega
        have hNs:N≤s'.size:=by omega
        have hs4:s'.size≤4000:=by omega
        have hs0:1≤s'.size:=by omega
        clear hN
        go_wp2
        go_loop [7,8,51] (fun v7 v8 v51=>∃ i V P:Nat,i≤N∧v51 = .int .i64 (i:Nat)∧v7 = .int .u32 ((V:Nat):Int)∧v8 = .int .u32 ((P:Nat):Int)∧Hid (P=10 ^ i)∧Hid (V=valT (fun j=>dv (f (k+j))) i)) (fun _ _ v51=>N - (intOf v51).toNat)
        case atStart=>exact⟨0,0,1,by omega,rfl,rfl,rfl,Lib.hid rfl,Lib.hid rfl⟩
        case round=>
         obtain⟨i,V,P,hi,rfl,rfl,rfl,HP,HV⟩:=hrel
         have hVP:V<P:=by rw [HP.out,HV.out];exact valT_lt (fun j=>dv_lt _) i
         by_cases h3:i<N
         ·have e3:decide ((i:Int)<(N:Int))=true:=by simpa using h3
          have e3n:decide (i<N)=true:=by simpa using h3
          have hi8:i≤8:=by omega
          have hP8:P≤100000000:=by rw [HP.out];exact Nat.le_trans (Nat.pow_le_pow_right (by omega) hi8) (by decide)
          have his:i<s'.size:=by omega
          have q2:(0:Int)≤((i:Nat):Int):=by omega
          have q3:((i:Nat):Int)<(s'.size:Int):=by omega
          have xi:=SS.out.2 i his
          have hg:=HG.out (k+i) (by omega)
          obtain⟨c,hc⟩:∃ c,c=f (k+i):=⟨_,rfl⟩
          rw [←hc] at hg
          simp only [←hc] at xi
          have e4:=u8_dv c hg.1 hg.2
          obtain⟨c',hc'⟩:∃ c',c'=dv c:=⟨_,rfl⟩
          have hc9:c'<10:=by rw [hc'];exact dv_lt _
          rw [←hc'] at e4
          have HV2:Hid (10*V+c'=valT (fun j=>dv (f (k+j))) (i+1)):=Lib.hid (by
           rw [HV.out,hc',hc];rfl)
          have HP2:Hid (10*P=10 ^ (i+1)):=Lib.hid (by rw [HP.out,Nat.pow_succ];omega)
          clear hc hc' hg
          go_wp2
          go_round
          case rel=>exact⟨i+1,10*V+c',10*P,by omega,by go_num,by go_num,by go_num,HP2,HV2⟩
          case measure=>simp [intOf];omega
         ·obtain rfl:N=i:=by omega
          have e3:decide ((N:Int)<(N:Int))=false:=by simp
          have hP9:P≤1000000000:=by rw [HP.out];exact Nat.le_trans (Nat.pow_le_pow_right (by omega) hN9) (by decide)
          obtain⟨X,hX⟩:∃ X,X=valT (fun i=>dv (f i)) k:=⟨_,rfl⟩
          have HX:=Lib.hid hX
          have hXn:nl X≤4000:=Nat.le_trans ((nl_le X k).2 (by rw [hX];exact Nat.lt_of_lt_of_le (valT_lt (fun j=>dv_lt _) k) (Nat.pow_le_pow_left (by omega) k))) (by omega)
          rw [←hX] at MG
          have hPn:nl P≤1:=(nl_le P 1).2 (by omega)
          have hVn:nl V≤1:=(nl_le V 1).2 (by omega)
          have hXP:nl (X*P)≤4001:=Nat.le_trans (nl_mul_le X P) (by omega)
          have hT:trimN (fun _=>P) 1=1:=by unfold trimN;rw [if_neg (by omega)]
          have HL:=Lib.hid (limb_new wr P (by omega))
          rw [hT] at HL
          have KB:=Lib.hid (boxes1 wr (.cells #[.int .u32 ((P:Nat):Int)] 145))
          have MG:=Lib.hid (MG.out.mono KB.out (Nat.le_refl _))
          have KW:=Lib.hid (KW.out.trans (KB.out.mono KW.out.size))
          clear hT hX
          go_wp2_with (first
           | (go_at_call 129;(with_reducible refine (times_any _ _ X P _ MG.out HL.out (by omega)).mono ?_);rintro e w6 ⟨r6,rfl,hr6,hb6⟩;have KW:=Lib.hid (KW.out.trans (hb6.mono KW.out.size));have M6:=Lib.hid hr6;have L6:=Lib.hid (limb_new w6 V (by omega));have K6:=Lib.hid (boxes1 w6 (.cells #[.int .u32 ((V:Nat):Int)] 145));clear hr6 hb6)
           | (go_at_call 125;(with_reducible refine (trim_any (some ⟨w6.heap.size,0,none⟩) w6.heap.size 0 1 1 (fun _=>V) _ (by omega) (limb_sl w6 V)).mono ?_);rintro e w7 ⟨rfl,rfl⟩)
           | (go_at_call 126;(with_reducible refine (plus_any _ _ (X*P) V _ (M6.out.mono K6.out (Nat.le_refl _)) L6.out (by omega) (by omega)).mono ?_);rintro e w8 ⟨r8,rfl,hr8,hb8⟩;have KW:=Lib.hid ((KW.out.trans (K6.out.mono KW.out.size)).trans (hb8.mono (by have:=KW.out.size;have:=K6.out.size;omega)));have M8:=Lib.hid hr8;clear hr8 hb8))
          go_roundw
          case rel=>
           refine⟨k+N,s'.extract N s'.size,by omega,by rw [HNN.out,hsz],Lib.hid ?_,Lib.hid ?_,KW⟩
           ·have h:=bts_cut SS.out N (s.size - k) (by omega) (by omega) (g:=fun i=>f (k+N+i)) (fun j hj=>by simp only [Nat.add_assoc])
            rw [hsz]
            rw [show s.size - (k+N)=s.size - k - N by omega]
            exact h
           ·rw [valT_split,←HX.out,←HP.out,←HV.out];exact M8.out
          case measure=>simp;omega
       ·have hs0:s'.size=0:=by omega
        have hemp:s'.toList.isEmpty=true:=empty_iff.2 hs0
        obtain rfl:s.size=k:=by omega
        go_wp2
        go_ret2
        exact⟨_,rfl,MG.out,KW.out⟩
     ·have d4:decide ((4000:Int)<(s.size:Int))=true:=by simp;omega
      obtain rfl:b=false:=bool_false HOK.out (fun q=>by have:=q.2.1;omega)
      go_wp2
      go_ret2
      exact⟨_,rfl,mag_nil _,Below.refl _ _⟩
end Go.Proofs.YtgmopcncbpdniaaGreat
namespace Go.Proofs.YtgmopcncbpdniaaGreat
open Go.RowKit
attribute [local go_sem ↓] Go.wp_at_zero Go.wp_at_succ
theorem idx_none (c:UInt8):∀ l:List UInt8,(∀ i:Nat,l[i]?≠some c)→Lib.indexByte l c = -1
 | [],_=>rfl
 | b :: l,h=>by
  have h1:Lib.indexByte l c = -1:=idx_none c l (fun i=>by have:=h (i+1);simpa using this)
  have h2:(b == c)=false:=by
   have:=h 0
   simp at this
   simpa using this
  simp [Lib.indexByte,h1,h2]
theorem idx_some (c:UInt8):∀ (l:List UInt8) (k:Nat),(∀ i:Nat,i<k→l[i]?≠some c)→l[k]? = some c→Lib.indexByte l c=(k:Int)
 | [],k,_,h=>by simp at h
 | b :: l,0,_,h=>by
  simp at h
  simp [Lib.indexByte,h]
 | b :: l,k+1,h,hk=>by
  have h1:Lib.indexByte l c=(k:Int):=idx_some c l k (fun i hi=>by have:=h (i+1) (by omega);simpa using this) (by simpa using hk)
  have h2:(b == c)=false:=by
   have:=h 0 (by omega)
   simp at this
   simpa using this
  have h3:¬ ((k:Int) = -1):=by omega
  simp [Lib.indexByte,h1,h2,h3]
def SlAt (L:Nat) (f:Nat→Nat) (k:Nat):Prop:=k≤L∧(∀ i,i<k→f i≠47)∧(k<L→f k=47)
theorem bts_get {s:ByteArray} {L:Nat} {f:Nat→Nat} (h:Bts s L f) (i:Nat) (hi:i<L):∃ b:UInt8,s.data.toList[i]? = some b∧b.toNat=f i:=by
 obtain⟨rfl,h2⟩:=h
 refine⟨s[i],?_,h2 i hi⟩
 have h3:i<s.data.toList.length:=by rw [Array.length_toList];exact hi
 rw [List.getElem?_eq_getElem h3]
 rfl
theorem idx_of {s:ByteArray} {L k:Nat} {f:Nat→Nat} (h:Bts s L f) (hk:SlAt L f k):Lib.indexByte s.data.toList 47=if k<L then (k:Int) else -1:=by
 have hb:∀ i:Nat,i<k→s.data.toList[i]?≠some 47:=fun i hi e=>by
  obtain⟨b,h1,h2⟩:=bts_get h i (by have:=hk.1;omega)
  rw [e] at h1
  have:(47:UInt8)=b:=Option.some.inj h1
  subst this
  exact hk.2.1 i hi h2.symm
 by_cases e:k<L
 ·rw [if_pos e]
  obtain⟨b,h1,h2⟩:=bts_get h k e
  refine idx_some 47 _ k hb ?_
  rw [h1]
  congr 1
  rw [hk.2.2 e] at h2
  exact UInt8.toNat_inj.1 h2
 ·rw [if_neg e]
  refine idx_none 47 _ (fun i=>?_)
  by_cases hi:i<L
  ·exact hb i (by omega)
  ·have:s.data.toList.length≤i:=by rw [Array.length_toList];have:=h.1;show s.size≤i;omega
   rw [List.getElem?_eq_none this];simp
set_option maxHeartbeats 2000000 in
set_option maxRecDepth 100000 in
theorem slcut_any (s:ByteArray) (L k:Nat) (f:Nat→Nat) (w:World) (hs:Bts s L f) (hL:L≤1000000) (hk:SlAt L f k) :
  Calls Tryz.prog 132 #[.string s,.string ⟨#[47]⟩] w fun e w'=>e = .returned (.tuple #[.string (s.extract 0 k),.string (if k<L then s.extract (k+1) L else ⟨#[]⟩),.bool (decide (k<L))])∧Drawn w w':=by
 have hi:=idx_of hs hk
 have HKL:=Lib.hid hk.1
 obtain⟨rfl,-⟩:=hs
 clear hk
 by_cases e:k<s.size
 ·rw [if_pos e] at hi
  rw [if_pos e,decide_eq_true e]
  have HI:=Lib.hid hi
  have q0:(0:Int)≤(k:Int):=by omega
  have q1:(k:Int)≤(s.size:Int):=by omega
  have q2:(k:Int)+1≤(s.size:Int):=by omega
  have hsz:(⟨#[47]⟩:ByteArray).size=1:=rfl
  clear hi
  go_enter Tryz.func132,Tryz.ntmps132
  go_wp2_with (first | (go_at_call 144;(with_reducible refine (Tryz.stringslite_Index_one s 47 _).mono ?_);rintro e1 w1 ⟨rfl,rfl⟩;rw [HI.out]))
  go_quiet (fail)
  go_wp2
  refine bodyPost_ret (v:=.tuple #[.string (s.extract 0 k),.string (s.extract (k+1) s.size),.bool true]) (by simp [results,Tryz.results132,go_sem]) rfl ?_
  exact⟨rfl,Drawn.of _ _⟩
 ·rw [if_neg e] at hi
  rw [if_neg e,decide_eq_false e]
  have HI:=Lib.hid hi
  have hks:k=s.size:=by have:=HKL.out;omega
  have hex:s.extract 0 k=s:=by rw [hks];exact ByteArray.extract_zero_size
  rw [hex]
  clear hi hex
  go_enter Tryz.func132,Tryz.ntmps132
  go_wp2_with (first | (go_at_call 144;(with_reducible refine (Tryz.stringslite_Index_one s 47 _).mono ?_);rintro e1 w1 ⟨rfl,rfl⟩;rw [HI.out]))
  refine bodyPost_ret (v:=.tuple #[.string s,.string ⟨#[]⟩,.bool false]) (by simp [results,Tryz.results132,go_sem]) rfl ?_
  exact⟨rfl,Drawn.refl _⟩
theorem cut_slash (s:ByteArray) (L k:Nat) (f:Nat→Nat) (w:World) (hs:Bts s L f) (hL:L≤1000000) (hk:SlAt L f k) :
  Calls Tryz.prog 102 #[.string s,.string ⟨#[47]⟩] w fun e w'=>e = .returned (.tuple #[.string (s.extract 0 k),.string (if k<L then s.extract (k+1) L else ⟨#[]⟩),.bool (decide (k<L))])∧Drawn w w':=by
 have HS:=Lib.hid hs
 have HK:=Lib.hid hk
 obtain⟨t,ht⟩:∃ t,t=(if k<L then s.extract (k+1) L else ⟨#[]⟩):=⟨_,rfl⟩
 obtain⟨b,hb⟩:∃ b,b=decide (k<L):=⟨_,rfl⟩
 have HT:=Lib.hid ht
 have HB:=Lib.hid hb
 rw [←ht,←hb]
 clear hs hk ht hb
 go_enter Tryz.func102,Tryz.ntmps102
 go_wp2_with (first | (go_at_call 132;(with_reducible refine (slcut_any s L k f _ HS.out hL HK.out).mono ?_);rintro e1 w1 ⟨rfl,hd1⟩;rw [←HT.out,←HB.out]))
 refine bodyPost_ret (v:=.tuple #[.string (s.extract 0 k),.string t,.bool b]) (by simp [results,Tryz.results102,go_sem]) rfl ?_
 exact⟨rfl,hd1⟩
end Go.Proofs.YtgmopcncbpdniaaGreat
namespace Go.Proofs.YtgmopcncbpdniaaGreat
open Go.RowKit
attribute [local go_sem ↓] Go.wp_at_zero Go.wp_at_succ
theorem pre_yes {s t:ByteArray} (h:s=⟨#[45]⟩ ++ t):Lib.hasPrefix s.data.toList [45]=true∧(⟨(Lib.trimPrefix s.data.toList [45]).toArray⟩:ByteArray)=t:=by
 have e:s.data.toList=45 :: t.data.toList:=by subst h;simp
 have h1:Lib.hasPrefix s.data.toList [45]=true:=by rw [e];simp [Lib.hasPrefix,List.isPrefixOf]
 refine⟨h1,?_⟩
 unfold Lib.trimPrefix
 rw [if_pos h1,e]
 simp
theorem pre_no {s:ByteArray} (h:s.data.toList[0]?≠some 45):Lib.hasPrefix s.data.toList [45]=false∧(⟨(Lib.trimPrefix s.data.toList [45]).toArray⟩:ByteArray)=s:=by
 have h1:Lib.hasPrefix s.data.toList [45]=false:=by
  unfold Lib.hasPrefix
  cases e:s.data.toList with
  | nil=>rfl
  | cons a l=>
   rw [e] at h
   simp at h
   simp [List.isPrefixOf]
   exact fun q=>h q.symm
 refine⟨h1,?_⟩
 unfold Lib.trimPrefix
 rw [if_neg (by rw [h1];decide)]
theorem rat_parts {w:World} {u d:Value} {q:Rat} {X m:Nat} {mn:Bool} (hn:q.num=if mn then -(X:Int) else X) (hm:mn=true→0<X) (h1:Mag w u X) (h2:Mag w d q.den) (hX:nl X≤m) (hD:nl q.den≤m) :
  RatIs w (.agg #[.bool mn,u,.bool false,d]) q m:=by
 have e1:decide (q.num<0)=mn:=by
  rw [hn]
  cases mn with
  | true=>have:=hm rfl;simp;omega
  | false=>simp
 have e2:q.num.natAbs=X:=by
  rw [hn]
  cases mn <;> simp
 exact⟨u,d,by rw [e1],by rw [e2];exact h1,h2,by rw [e2];exact hX,hD⟩
set_option maxHeartbeats 8000000 in
set_option maxRecDepth 100000 in
theorem npar_whole (s t:ByteArray) (L Lt X:Nat) (f ft:Nat→Nat) (mn:Bool) (q:Rat) (w:World) (hs:Bts s L f) (hL:L≤1000000) (hk:SlAt L f L) (hpre:Lib.hasPrefix (s.extract 0 L).data.toList [45]=mn) (htr:(⟨(Lib.trimPrefix (s.extract 0 L).data.toList [45]).toArray⟩:ByteArray)=t)
  (ht:Bts t Lt ft) (hok:okD Lt ft) (hX:numD Lt ft=X) (hm:mn=true→0<X) (hXn:nl X≤4000) (hq:q.num=if mn then -(X:Int) else X) (hd:q.den=1) :
  Calls Tryz.prog 65 #[.string s] w fun e w'=>∃ r,e = .returned (.tuple #[r,.bool true])∧RatIs w' r q 4000∧Below w.heap.size w w':=by
 have HS:=Lib.hid hs
 have HK:=Lib.hid hk
 have HP:=Lib.hid hpre
 have HT:=Lib.hid htr
 have HBT:=Lib.hid ht
 have HOK:=Lib.hid hok
 have HX:=Lib.hid hX
 have HM:=Lib.hid hm
 have HQ:=Lib.hid hq
 have HD:=Lib.hid hd
 have RO0:=Lib.hid (own4_new w w.heap.size rfl (.bool false) (.slice none 0 0) (.bool false) (.slice none 0 0) 92)
 have KW0:=Lib.hid (boxes1 w (.cells #[.bool false,.slice none 0 0,.bool false,.slice none 0 0] 92))
 clear hs hk hpre htr ht hok hX hm hq hd
 go_enter Tryz.func65,Tryz.ntmps65
 go_wp2_with fail
 generalize w.alloc (.cells #[.bool false,.slice none 0 0,.bool false,.slice none 0 0] 92)=wb at *
 refine (cut_slash s L L f _ HS.out hL HK.out).mono ?_
 rintro e w1 ⟨rfl,hd1⟩
 rw [if_neg (Nat.lt_irrefl _),decide_eq_false (Nat.lt_irrefl _)]
 have KW:=Lib.hid (KW0.out.trans ((hd1.below wb.heap.size).mono KW0.out.size))
 have RO:=Lib.hid (RO0.out.drawn hd1)
 clear hd1
 go_wp2_with fail
 refine (Tryz.strings_CutPrefix (s.extract 0 L) ⟨#[45]⟩ _).mono ?_
 rintro e w2 ⟨rfl,rfl⟩
 rw [show (⟨#[45]⟩:ByteArray).data.toList = [45] from rfl,HP.out,HT.out]
 go_wp2_with fail
 refine (nread_any t Lt ft true _ HBT.out (by have:=HOK.out.2.1;omega) ⟨fun _=>HOK.out,fun _=>rfl⟩).mono ?_
 rintro e w3 ⟨v3,rfl,hm3,hb3⟩
 rw [if_pos rfl,HX.out] at hm3
 have M3:=Lib.hid hm3
 have KW:=Lib.hid (KW.out.trans (hb3.mono KW.out.size))
 have RO:=Lib.hid (RO.out.below hb3 RO.out.lt)
 obtain⟨a3,b3,o3,c3,rfl,i3⟩:=hm3
 clear hb3 i3
 rcases mn with _ | _
 ·have HQ:Hid (q.num=(X:Int)):=HQ
  have L1:=Lib.hid (limb_new w3 1 (by omega))
  have K1:=Lib.hid (boxes1 w3 (.cells #[.int .u32 ((1:Nat):Int)] 145))
  have hT:trimN (fun _=>1) 1=1:=by decide
  rw [hT] at L1
  have M3:=Lib.hid (M3.out.mono K1.out (Nat.le_refl _))
  have RO:=Lib.hid (RO.out.below K1.out RO.out.lt)
  have KW:=Lib.hid (KW.out.trans (K1.out.mono KW.out.size))
  clear K1 hT
  go_wp2_with fail
  refine (made_any _ false X _ M3.out).mono ?_
  rintro e w4 ⟨rfl,hm4,hb4⟩
  have M4:=Lib.hid hm4
  have L4:=Lib.hid (L1.out.mono hb4 (Nat.le_refl _))
  have RO:=Lib.hid (RO.out.below hb4 RO.out.lt)
  have KW:=Lib.hid (KW.out.trans (hb4.mono KW.out.size))
  clear hm4 hb4
  go_wp2_with fail
  refine (made_any _ false 1 _ L4.out).mono ?_
  rintro e w5 ⟨rfl,hm5,hb5⟩
  have M5:=Lib.hid (M4.out.mono hb5 (Nat.le_refl _))
  have L5:=Lib.hid hm5
  have RO:=Lib.hid (RO.out.below hb5 RO.out.lt)
  have KW:=Lib.hid (KW.out.trans (hb5.mono KW.out.size))
  clear hm5 hb5 L4 M4 L1 M3
  go_wp2_with fail
  have RN:=Lib.hid (own4_new w5 w5.heap.size rfl (.bool false) (.slice a3 (nl X) c3) (.bool false) (.slice (some ⟨w3.heap.size,0,none⟩) 1 1) 92)
  have K5:=Lib.hid (boxes1 w5 (.cells #[.bool false,.slice a3 (nl X) c3,.bool false,.slice (some ⟨w3.heap.size,0,none⟩) 1 1] 92))
  have XR:=Lib.hid (rat_parts (m:=4000) (mn:=false) (X:=X) (by rw [HQ.out];rfl) (fun e=>Bool.noConfusion e) (M5.out.mono K5.out (Nat.le_refl _)) (by rw [HD.out];exact L5.out.mono K5.out (Nat.le_refl _)) hXn (by rw [HD.out];decide))
  have RO:=Lib.hid (RO.out.below K5.out RO.out.lt)
  have KW:=Lib.hid (KW.out.trans (K5.out.mono KW.out.size))
  generalize (w5.alloc (.cells #[.bool false,.slice a3 (nl X) c3,.bool false,.slice (some ⟨w3.heap.size,0,none⟩) 1 1] 92))=w6 at *
  have x0:=RN.out.c0;have x1:=RN.out.c1;have x2:=RN.out.c2;have x3:=RN.out.c3;have xl:=RN.out.lt;have xf:=RN.out.f
  have y0:=RO.out.c0;have y1:=RO.out.c1;have y2:=RO.out.c2;have y3:=RO.out.c3;have yl:=RO.out.lt;have yf:=RO.out.f
  clear K5 L5 M5
  go_region
  all_goals
   go_wp2
   refine bodyPost_ret (v:=.tuple #[.agg #[.bool false,.slice a3 (nl X) c3,.bool false,.slice (some ⟨w3.heap.size,0,none⟩) 1 1],.bool true]) (by simp [results,Tryz.results65,go_sem,y0,y1,y2,y3,yf,yl]) rfl ?_
   exact⟨_,rfl,(RatIs.into XR.out _ _ _ _ RO.out).drew,(below_set4 KW.out (Nat.le_refl _) _ _ _ _).drew⟩
 ·have h0:0<X:=HM.out rfl
  have H0:=Lib.hid h0
  have HQ:Hid (q.num = -(X:Int)):=HQ
  have hnl:nl X≠0:=fun e=>by have:=(nl_le X 0).1 (by omega);simp at this;omega
  have e0:((nl X:Int) == 0)=false:=by simp;omega
  have dd:decide (0<X)=true:=by simpa using h0
  have L1:=Lib.hid (limb_new w3 1 (by omega))
  have K1:=Lib.hid (boxes1 w3 (.cells #[.int .u32 ((1:Nat):Int)] 145))
  have hT:trimN (fun _=>1) 1=1:=by decide
  rw [hT] at L1
  have M3:=Lib.hid (M3.out.mono K1.out (Nat.le_refl _))
  have RO:=Lib.hid (RO.out.below K1.out RO.out.lt)
  have KW:=Lib.hid (KW.out.trans (K1.out.mono KW.out.size))
  clear K1 hT
  go_wp2_with fail
  refine (made_any _ true X _ M3.out).mono ?_
  rintro e w4 ⟨rfl,hm4,hb4⟩
  have M4:=Lib.hid hm4
  have L4:=Lib.hid (L1.out.mono hb4 (Nat.le_refl _))
  have RO:=Lib.hid (RO.out.below hb4 RO.out.lt)
  have KW:=Lib.hid (KW.out.trans (hb4.mono KW.out.size))
  clear hm4 hb4
  go_wp2_with fail
  refine (made_any _ false 1 _ L4.out).mono ?_
  rintro e w5 ⟨rfl,hm5,hb5⟩
  have M5:=Lib.hid (M4.out.mono hb5 (Nat.le_refl _))
  have L5:=Lib.hid hm5
  have RO:=Lib.hid (RO.out.below hb5 RO.out.lt)
  have KW:=Lib.hid (KW.out.trans (hb5.mono KW.out.size))
  clear hm5 hb5 L4 M4 L1 M3
  go_wp2_with fail
  have RN:=Lib.hid (own4_new w5 w5.heap.size rfl (.bool true) (.slice a3 (nl X) c3) (.bool false) (.slice (some ⟨w3.heap.size,0,none⟩) 1 1) 92)
  have K5:=Lib.hid (boxes1 w5 (.cells #[.bool true,.slice a3 (nl X) c3,.bool false,.slice (some ⟨w3.heap.size,0,none⟩) 1 1] 92))
  have XR:=Lib.hid (rat_parts (m:=4000) (mn:=true) (X:=X) (by rw [HQ.out];rfl) (fun _=>H0.out) (M5.out.mono K5.out (Nat.le_refl _)) (by rw [HD.out];exact L5.out.mono K5.out (Nat.le_refl _)) hXn (by rw [HD.out];decide))
  have RO:=Lib.hid (RO.out.below K5.out RO.out.lt)
  have KW:=Lib.hid (KW.out.trans (K5.out.mono KW.out.size))
  generalize (w5.alloc (.cells #[.bool true,.slice a3 (nl X) c3,.bool false,.slice (some ⟨w3.heap.size,0,none⟩) 1 1] 92))=w6 at *
  have x0:=RN.out.c0;have x1:=RN.out.c1;have x2:=RN.out.c2;have x3:=RN.out.c3;have xl:=RN.out.lt;have xf:=RN.out.f
  have y0:=RO.out.c0;have y1:=RO.out.c1;have y2:=RO.out.c2;have y3:=RO.out.c3;have yl:=RO.out.lt;have yf:=RO.out.f
  clear K5 L5 M5
  go_region
  all_goals
   go_wp2
   refine bodyPost_ret (v:=.tuple #[.agg #[.bool true,.slice a3 (nl X) c3,.bool false,.slice (some ⟨w3.heap.size,0,none⟩) 1 1],.bool true]) (by simp [results,Tryz.results65,go_sem,y0,y1,y2,y3,yf,yl]) rfl ?_
   exact⟨_,rfl,(RatIs.into XR.out _ _ _ _ RO.out).drew,(below_set4 KW.out (Nat.le_refl _) _ _ _ _).drew⟩
end Go.Proofs.YtgmopcncbpdniaaGreat
