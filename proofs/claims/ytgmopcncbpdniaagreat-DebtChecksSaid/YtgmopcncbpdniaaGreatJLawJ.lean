import Derived.Test.YtgmopcncbpdniaaGreatJCmn
import Derived.Test.YtgmopcncbpdniaaGreatJFitG
import Derived.Test.YtgmopcncbpdniaaGreatJDue
import Derived.Test.YtgmopcncbpdniaaGreatJSame
import Derived.Test.YtgmopcncbpdniaaGreatJQDiv
import Derived.Test.YtgmopcncbpdniaaGreatJClr
import Derived.Test.YtgmopcncbpdniaaGreatJLives
set_option linter.unusedVariables false
set_option linter.unusedSimpArgs false
namespace Go.Proofs.YtgmopcncbpdniaaGreat
open Go.RowKit
attribute [local go_sem ↓] Go.wp_at_zero Go.wp_at_succ
theorem rclr_of2 {n:Nat} {cash:Nat→Int} {d:Nat→Nat→Int} {p:Nat→Rat} (h:ClrQ n (cashQ cash) (totQ n d) (shQ n d) p):RClr n cash d p n:=fun i hi=>by
  refine⟨h.pos i hi,?_⟩
  have h1:=h.tot i hi
  have h2:=h.has i hi
  have h3:=h.eq i hi
  unfold dueQ
  split
  · rcases h3 with e | e
    · grind
    · exact e
  · rcases h3 with e | e
    · exact e
    · grind
theorem short_40b (s : ByteArray) (L : Nat) (f : Nat → Nat) (b : Bool) (w : World) (hs : Bts s L f) (hL : L ≤ 1000000) (hb : b = true ↔ ∀ i, i ≤ L → shF f i ≤ 40) :
    Calls Tryz.prog 37 #[.string s,.int .i64 40] w fun e w'=>e = .returned (.bool b)∧Below w.heap.size w w':=
  short_any s L 40 f b w hs hL (by omega) hb
theorem clr_of {n:Nat} {cash:Nat→Int} {d:Nat→Nat→Int} {p:Nat→Rat} (h:RClr n cash d p n):ClrQ n (cashQ cash) (totQ n d) (shQ n d) p:=by
  have hd:∀ i,i<n→0≤p i∧p i≤totQ n d i∧p i≤hasP n (cashQ cash) (shQ n d) p i∧(p i=totQ n d i∨p i=hasP n (cashQ cash) (shQ n d) p i):=fun i hi=>by
    obtain⟨h0,h1⟩:=h i hi
    unfold dueQ at h1
    split at h1
    · refine⟨h0,?_,?_,.inr h1⟩ <;> grind
    · refine⟨h0,?_,?_,.inl h1⟩ <;> grind
  exact⟨fun i hi=>(hd i hi).1,fun i hi=>(hd i hi).2.1,fun i hi=>(hd i hi).2.2.1,fun i hi=>(hd i hi).2.2.2⟩
theorem ex_q (ss:Nat→ByteArray):∃ q:Nat→Rat,∀ j,OKT (ss j)→FracTxt (ss j) (q j).num (q j).den∧(q j).num.natAbs<10 ^ 40∧(q j).den<10 ^ 40:=by
  have h:∀ j,∃ q:Rat,OKT (ss j)→FracTxt (ss j) q.num q.den∧q.num.natAbs<10 ^ 40∧q.den<10 ^ 40:=fun j=>by
    by_cases e:OKT (ss j)
    · obtain⟨q,hq⟩:=e
      exact⟨q,fun _=>hq⟩
    · exact⟨0,fun h=>absurd h e⟩
  exact⟨fun j=>Classical.choose (h j),fun j=>Classical.choose_spec (h j)⟩
theorem okt_iff (s:ByteArray):OKT s↔GoodT s∧∀ i,i≤s.size→shF (fun i=>if h:i<s.size then s[i].toNat else 0) i≤40:=by
  constructor
  · rintro ⟨q,h1,h2,h3⟩
    exact⟨⟨q,h1⟩,sh_back h1 (bts_self s) (by decide) h2 h3⟩
  · rintro ⟨⟨q,h1⟩,h2⟩
    have:=sh_frac h1 (bts_self s) h2 (by decide)
    exact⟨q,h1,this.1,this.2⟩
theorem ex_bool (P:Prop):∃ b:Bool,b=true↔P:=by
  by_cases h:P
  · exact⟨true,fun _=>h,fun _=>rfl⟩
  · exact⟨false,fun e=>Bool.noConfusion e,fun e=>absurd e h⟩
def cutZ (zs:Nat→ByteArray) (j:Nat):ByteArray:=(zs j).extract 0 (min (zs j).size 100)
theorem cutZ_size (zs:Nat→ByteArray) (j:Nat):(cutZ zs j).size≤100:=by unfold cutZ;rw [ByteArray.size_extract];omega
theorem strL_next (ss:Nat→ByteArray) (k:Nat):strL ss k ++ [.string (ss k)]=strL ss (k+1):=by
  unfold strL
  rw [List.range_succ,List.map_append];rfl
set_option maxHeartbeats 8000000 in
set_option maxRecDepth 100000 in
theorem lawChecks (vx vy vz : Value) (nx n0 nz : Nat) (m0 : Nat → Nat) (x : Nat → Int) (d : Nat → Nat → Int) (zs : Nat → ByteArray) (w : World) (hx : Ints w vx nx x) (hy : Mat w vy n0 m0 d) (hz : Strs w vz nz zs) (b0 : nx ≤ 9223372036854775807) (b1 : n0 ≤ 9223372036854775807) (b2 : ∀ i, i < n0 → m0 i ≤ 9223372036854775807) (b3 : nz ≤ 9223372036854775807) (b4 : ∀ i, i < nz → (zs i).size ≤ 9223372036854775807) :
    Calls Tryz.prog 8 #[vx,vy,vz] w fun e w'=>e = .returned (.bool true)∧Below w.heap.size w w':=by
  obtain⟨za,zb,zo,zc,rfl,hzs⟩:=hz
  obtain⟨i0,hi,hz0,hz1,hz2⟩:=info_parts infoN
  have HZ:=Lib.hid hzs
  have HX:=Lib.hid hx
  have HY:=Lib.hid hy
  have B2:=Lib.hid b2
  have B4:=Lib.hid b4
  clear hx hy b2 hzs b4
  go_enter Tryz.func8,Tryz.ntmps8
  go_wp2_with fail
  refine (cut_any _ nx x _ HX.out b0).mono ?_
  rintro e w1 ⟨va1,vk1,rfl,hm1,hb1⟩
  have HC:=Lib.hid (ints_of_own hm1)
  have HY:=Lib.hid (HY.out.mono hb1 (Nat.le_refl _))
  have KW:=Lib.hid hb1
  clear hm1 hb1 HX
  go_wp2_with fail
  refine (rows_any _ n0 m0 d _ HY.out b1 B2.out).mono ?_
  rintro e w2 ⟨va2,vk2,rfl,hm2,hb2⟩
  have HD:=Lib.hid hm2
  have HC:=Lib.hid (HC.out.mono hb2 (Nat.le_refl _))
  have KW:=Lib.hid (KW.out.trans (hb2.mono KW.out.size))
  have HZ:=Lib.hid (HZ.out.mono KW.out (Nat.le_refl _))
  clear hm2 hb2 HY B2
  obtain⟨n,hn⟩:∃ n,n=min n0 9:=⟨_,rfl⟩
  obtain⟨nc,hnc⟩:∃ nc,nc=min nx 9:=⟨_,rfl⟩
  obtain⟨N,hN⟩:∃ N,N=min nz 9:=⟨_,rfl⟩
  rw [←hn] at HD ⊢
  rw [←hnc] at HC ⊢
  have hn9:n≤9:=by omega
  have hc9:nc≤9:=by omega
  have hNz:N≤nz:=by omega
  have hN9:N≤9:=by omega
  have HN:=Lib.hid hN
  clear hn hnc b0 b1 hN
  have hM:∀ i,i<n→cutM m0 i≤1048576:=fun i _=>cutM_small _ _
  generalize cutM m0=m at HD hM ⊢
  have HM:=Lib.hid hM
  clear hM
  have OW0:Hid ((w2.alloc (.cells #[] 63)).ownsRow w2.heap.size 63 1 (.slice (some ⟨w2.heap.size,0,none⟩) 0 0) 0 (strL (cutZ zs) 0)):=Lib.hid (World.ownsRow_made (e:=63) (base:=w2.heap.size) (size:=1) w2 #[] 0 (Nat.le_refl _) (by unfold maxLen;omega) rfl)
  have K20:=Lib.hid (boxes1 w2 (.cells #[] 63))
  go_upto_block 0 with fail
  go_cut [9] (fun v9 wx=>∃ va vk,v9 = .slice va N vk∧Hid (wx.ownsRow w2.heap.size 63 1 (.slice va N vk) N (strL (cutZ zs) N))∧Hid (Below w2.heap.size w2 wx))
  case first=>
    go_wp2_with fail
    go_loopw [9,10] (fun v9 v10 wr=>∃ k:Nat,k≤N∧v10 = .int .i64 (k:Nat)∧∃ va vk,v9 = .slice va k vk∧Hid (wr.ownsRow w2.heap.size 63 1 (.slice va k vk) k (strL (cutZ zs) k))∧Hid (Below w2.heap.size w2 wr)) (fun _ v10 _=>N - (intOf v10).toNat)
    case atStart=>exact⟨0,by omega,rfl,_,0,rfl,OW0,K20⟩
    case round=>
      clear OW0 K20
      obtain⟨k,hk,rfl,va,vk,rfl,OW,K2⟩:=hrel
      by_cases h:k<N
      · have hkn:k<nz:=by omega
        have e1:decide ((k:Int)<(nz:Int))=true:=by simpa using hkn
        have e1n:decide (k<nz)=true:=by simpa using hkn
        have e2:decide ((k:Int)≤8)=true:=by simp;omega
        have ix:=fun W=>ixN HZ.out k zc hkn W
        have y0:=(HZ.out.mono K2.out (Nat.le_refl _)).cell k hkn
        obtain⟨c,hc⟩:∃ c,c=min (zs k).size 100:=⟨_,rfl⟩
        have hmin:min (((zs k).size:Nat):Int) 100=(c:Int):=by omega
        have hc0:(0:Int)≤(c:Int):=by omega
        have hc1:(c:Int)≤(((zs k).size:Nat):Int):=by omega
        have hst:(zs k).extract 0 c=cutZ zs k:=by unfold cutZ;rw [hc]
        obtain⟨st,hst2⟩:∃ st,(zs k).extract 0 c=st:=⟨_,rfl⟩
        rw [hst2] at hst
        have HST:=Lib.hid hst
        clear hc hst
        have HSZ:=Lib.hid K2.out.size
        have HBK:=Lib.hid OW.out.lt
        have HZL:Hid (zb<w2.heap.size):=Lib.hid (HZ.out.lt (by omega))
        go_wp2
        go_region_held3 (fun w'=>w'.cell? ⟨zb,zo+k,none⟩=some (.string (zs k)))
          (first
            | go_keep
            | (have q1:Value.ownBlock (.slice va k vk)≠some zb:=fun e=>by have:=(HBK.out zb e).1;have:=HZL.out;omega
               have hz:=HSZ.out
               have hz2:=HZL.out
               (rw [hgrow.cell_far _ (by simp;omega) (Ne.symm q1)];assumption)))
          ((refine step_append_lies _ (by rfl) _ _ _ (by rfl) w2.heap.size 63 i0 _ 1 16 Tryz.underlying28 hi hz0 hz1 hz2 rfl (by omega) (.slice va k vk) k (strL (cutZ zs) k) (by rfl) (OW.out.alloc _)
              ⟨wr.heap.size,0,none⟩ 1 1 [.string st] (by rfl) (by rfl) (new1 wr (.string st) _) (one1 _ rfl)
              (by omega) (by unfold maxLen;omega) (by omega) (by simp;have:=HSZ.out;omega) (wr.heap.size+1) (by simp) ?_;intro gg cap w3 hown hgrow hat hlt))
        have K3:=Lib.hid (((K2.out.alloc K2.out.size _).drew).grown hgrow (by have:=HSZ.out;simp;omega) (fun kk e=>(HBK.out kk e).1))
        rw [HST.out,strL_next] at hown
        have OW3:=Lib.hid hown
        clear hown hgrow hat hlt
        go_wp2
        go_roundw
        case rel=>exact⟨k+1,by omega,by go_num,_,_,rfl,OW3,K3⟩
        case measure=>simp [intOf];omega
      · obtain rfl:N=k:=by omega
        by_cases h2:N<nz
        · have e1:decide ((N:Int)<(nz:Int))=true:=by simpa using h2
          have e1n:decide (N<nz)=true:=by simpa using h2
          have e2:decide ((N:Int)≤8)=false:=by have:=HN.out;simp;omega
          go_wp2_with fail
          go_meet
          case rel=>exact⟨va,vk,rfl,OW,K2⟩
        · have e1:decide ((N:Int)<(nz:Int))=false:=by simpa using h2
          have e1n:decide (N<nz)=false:=by simpa using h2
          go_wp2_with fail
          go_meet
          case rel=>exact⟨va,vk,rfl,OW,K2⟩
  case rest=>
    clear OW0 K20
    obtain⟨va,vk,rfl,OW,K2⟩:=hcut
    obtain⟨w4,rfl⟩:∃ w4:World,w4=wc:=⟨_,rfl⟩
    have ST:Hid (Strs w4 (.slice va N vk) N (cutZ zs)):=Lib.hid (Sl.of_own OW.out (fun i hi=>strL_get (cutZ zs) N i hi))
    have HC:=Lib.hid (HC.out.mono K2.out (Nat.le_refl _))
    have HD:=Lib.hid (HD.out.mono K2.out (Nat.le_refl _))
    have KW:=Lib.hid (KW.out.trans (K2.out.mono KW.out.size))
    have HSS:=Lib.hid (cutZ_size zs)
    clear OW K2 HZ B4 HN
    generalize cutZ zs=ss at ST HSS
    by_cases hK:Mkt nc n x m d
    · have HK:=Lib.hid hK
      obtain⟨hC,hD,rfl⟩:=hK
      have h1:1≤nc:=hD.1
      have h8:nc≤8:=hD.2.1
      have HCB:=Lib.hid hC
      have HDB:=Lib.hid (inD_debts hD)
      have HD0:=Lib.hid (inD_pos hD)
      have HD2:=Lib.hid (inD_mat HD.out hD)
      clear hC hD
      by_cases hNn:N=nc
      · subst hNn
        generalize inD N d=d2 at HDB HD0 HD2
        have HRG:=Lib.hid (rng_of HDB.out HCB.out HD0.out)
        obtain⟨q,hq⟩:=ex_q ss
        have HQ:=Lib.hid hq
        obtain⟨b0,hb0⟩:=ex_bool (∀ j,j<N→OKT (ss j))
        obtain⟨r,hr⟩:=ex_bool (∀ i,i<N→GdQ N x d2 q i)
        obtain⟨ec,hec⟩:∃ ec:Int,ec=if b0=true then 0 else 2:=⟨_,rfl⟩
        obtain⟨is,his⟩:∃ is:Bool,is=(b0 && r):=⟨_,rfl⟩
        have HB0:=Lib.hid hb0
        have HR:=Lib.hid hr
        have HEC:=Lib.hid hec
        have HIS:=Lib.hid his
        clear hq hb0 hr hec his
        have en:((N:Int) != (N:Int))=false:=by simp
        have hST:=ST
        obtain⟨sa,sb,so,sc,hse,hss⟩:=ST.out
        injection hse with y1 y2 y3
        subst y1 y3
        have HS:=Lib.hid hss
        clear hss
        go_upto_block 2 with (first
          | (go_at_call 35;(with_reducible refine (dclears_gen _ _ _ N x (fun _=>N) d2 q ss b0 r HB0.out HR.out _ HC.out HD2.out HDB.out HCB.out HD0.out ST.out (fun j _ h=>HQ.out j h) (fun j _=>Nat.le_trans (HSS.out j) (by omega))).mono ?_);rintro e w5 ⟨rfl,hb5⟩;rw [←HEC.out,←HIS.out];have HC:=Lib.hid (HC.out.mono hb5 (Nat.le_refl _));have HD:=Lib.hid (HD.out.mono hb5 (Nat.le_refl _));have HD2:=Lib.hid (HD2.out.mono hb5 (Nat.le_refl _));have ST:=Lib.hid (ST.out.mono hb5 (Nat.le_refl _));have HS:=Lib.hid (HS.out.mono hb5 (Nat.le_refl _));have KW:=Lib.hid (KW.out.trans (hb5.mono KW.out.size));clear hb5)
          | (go_at_call 23;(with_reducible refine (market_any _ _ N N x m d true ⟨fun _=>HK.out,fun _=>rfl⟩ _ HC.out HD.out (by omega) (by omega)).mono ?_);rintro e w6 ⟨rfl,hd6⟩;have HC:=Lib.hid (HC.out.drawn hd6);have HD2:=Lib.hid (HD2.out.drawn hd6);have ST:=Lib.hid (ST.out.mono (hd6.below _) (Nat.le_refl _));have HS:=Lib.hid (HS.out.mono (hd6.below _) (Nat.le_refl _));have KW:=Lib.hid (KW.out.trans (hd6.below _));clear hd6 HD))
        have K0:=Lib.hid (Below.refl w6.heap.size w6)
        go_cut [13] (fun v13 wx=>v13 = .int .i64 ec∧Hid (Below w6.heap.size w6 wx))
        case first=>
          go_wp2_with fail
          go_loopw [13,14] (fun v13 v14 wr=>∃ k f:Nat,k≤N∧v14 = .int .i64 (k:Nat)∧v13 = .int .i64 (f:Nat)∧Hid (f=0∧(∀ j,j<k→OKT (ss j))∨f=2∧b0=false)∧Hid (Below w6.heap.size w6 wr)) (fun _ v14 _=>N - (intOf v14).toNat)
          case atStart=>exact⟨0,0,by omega,rfl,rfl,Lib.hid (.inl ⟨rfl,fun j hj=>by omega⟩),K0⟩
          case round=>
            clear K0
            obtain⟨k,f,hk,rfl,rfl,HF,K2⟩:=hrel
            by_cases h:k<N
            · have e1:decide ((k:Int)<(N:Int))=true:=by simpa using h
              have e1n:decide (k<N)=true:=by simpa using h
              by_cases hf:f=0
              · subst hf
                have HOK:Hid (∀ j,j<k→OKT (ss j)):=Lib.hid (by
                  rcases HF.out with e | e
                  · exact e.2
                  · exact absurd e.1 (by decide))
                have e2:(((0:Nat):Int) == 0)=true:=rfl
                have y0:=(HS.out.mono K2.out (Nat.le_refl _)).cell k h
                have ix:=fun W=>ixN HS.out k vk h W
                have HLK:=Lib.hid (HSS.out k)
                obtain⟨c1,hc1⟩:=ex_bool (GoodT (ss k))
                obtain⟨c2,hc2⟩:=ex_bool (∀ i,i≤(ss k).size→shF (fun i=>if h:i<(ss k).size then (ss k)[i].toNat else 0) i≤40)
                have HC1:=Lib.hid hc1
                have HC2:=Lib.hid hc2
                clear hc1 hc2
                rcases hc1:c1 with _ | _
                · subst hc1
                  obtain rfl:b0=false:=bool_false HB0.out (fun q=>Bool.noConfusion (HC1.out.2 ((okt_iff _).1 (q k h)).1))
                  go_wp2_with (go_at_call 36;(with_reducible refine (valid_gen (ss k) false _ (Nat.le_trans HLK.out (by omega)) HC1.out).mono ?_);rintro e w7 ⟨rfl,hb7⟩;have K2:=Lib.hid (K2.out.trans (hb7.mono K2.out.size));clear hb7)
                  go_roundw
                  case rel=>exact⟨k+1,2,by omega,by go_num,rfl,Lib.hid (.inr ⟨rfl,trivial⟩),K2⟩
                  case measure=>simp [intOf];omega
                · subst hc1
                  have HG1:=Lib.hid (HC1.out.1 rfl)
                  rcases hc2:c2 with _ | _
                  · subst hc2
                    obtain rfl:b0=false:=bool_false HB0.out (fun q=>Bool.noConfusion (HC2.out.2 ((okt_iff _).1 (q k h)).2))
                    go_wp2_with (first
                      | (go_at_call 36;(with_reducible refine (valid_gen (ss k) true _ (Nat.le_trans HLK.out (by omega)) ⟨fun _=>HG1.out,fun _=>rfl⟩).mono ?_);rintro e w7 ⟨rfl,hb7⟩;have y0:=(HS.out.mono (K2.out.trans (hb7.mono K2.out.size)) (Nat.le_refl _)).cell k h;have K2:=Lib.hid (K2.out.trans (hb7.mono K2.out.size));clear hb7)
                      | (go_at_call 37;(with_reducible refine (short_40b (ss k) _ _ false _ (bts_self _) (Nat.le_trans HLK.out (by omega)) HC2.out).mono ?_);rintro e w8 ⟨rfl,hb8⟩;have K2:=Lib.hid (K2.out.trans (hb8.mono K2.out.size));clear hb8))
                    go_roundw
                    case rel=>exact⟨k+1,2,by omega,by go_num,rfl,Lib.hid (.inr ⟨rfl,trivial⟩),K2⟩
                    case measure=>simp [intOf];omega
                  · subst hc2
                    have HG2:=Lib.hid (HC2.out.1 rfl)
                    have HKO:=Lib.hid ((okt_iff (ss k)).2 ⟨HG1.out,HG2.out⟩)
                    go_wp2_with (first
                      | (go_at_call 36;(with_reducible refine (valid_gen (ss k) true _ (Nat.le_trans HLK.out (by omega)) ⟨fun _=>HG1.out,fun _=>rfl⟩).mono ?_);rintro e w7 ⟨rfl,hb7⟩;have y0:=(HS.out.mono (K2.out.trans (hb7.mono K2.out.size)) (Nat.le_refl _)).cell k h;have K2:=Lib.hid (K2.out.trans (hb7.mono K2.out.size));clear hb7)
                      | (go_at_call 37;(with_reducible refine (short_40b (ss k) _ _ true _ (bts_self _) (Nat.le_trans HLK.out (by omega)) ⟨fun _=>HG2.out,fun _=>rfl⟩).mono ?_);rintro e w8 ⟨rfl,hb8⟩;have K2:=Lib.hid (K2.out.trans (hb8.mono K2.out.size));clear hb8))
                    go_roundw
                    case rel=>exact⟨k+1,0,by omega,by go_num,rfl,Lib.hid (.inl ⟨rfl,ext_lt HOK.out HKO.out⟩),K2⟩
                    case measure=>simp [intOf];omega
              · obtain rfl : f = 2 := by
                  rcases HF.out with e | e
                  · exact absurd e.1 hf
                  · exact e.1
                have e2:(((2:Nat):Int) == 0)=false:=rfl
                have HEE:Hid (ec=((2:Nat):Int)):=Lib.hid (by
                  rw [HEC.out]
                  rcases HF.out with e | e
                  · exact absurd e.1 hf
                  · rw [e.2];rfl)
                go_wp2_with fail
                go_meet
                case rel=>exact⟨by rw [HEE.out];try rfl,K2⟩
            · obtain rfl:N=k:=by omega
              have e1:decide ((N:Int)<(N:Int))=false:=by simp
              have HEE:Hid (ec=((f:Nat):Int)):=Lib.hid (by
                rw [HEC.out]
                rcases HF.out with e | e
                · rw [e.1,HB0.out.2 e.2];rfl
                · rw [e.1,e.2];rfl)
              go_wp2_with fail
              go_meet
              case rel=>exact⟨by rw [HEE.out];try rfl,K2⟩
        case rest=>
          clear K0
          obtain⟨rfl,K2⟩:=hcut
          have HC:=Lib.hid (HC.out.mono K2.out (Nat.le_refl _))
          have HD2:=Lib.hid (HD2.out.mono K2.out (Nat.le_refl _))
          have ST:=Lib.hid (ST.out.mono K2.out (Nat.le_refl _))
          have KW:=Lib.hid (KW.out.trans (K2.out.mono KW.out.size))
          rcases hb0:b0 with _ | _
          · subst hb0
            obtain rfl:ec=2:=HEC.out
            obtain rfl:is=false:=HIS.out
            go_wp2_with (go_at_call 13;(with_reducible refine (lives_true _).mono ?_);rintro e w10 ⟨rfl,hb10⟩;have KW:=Lib.hid (KW.out.trans (hb10.mono KW.out.size));clear hb10)
            go_ret
            exact⟨rfl,KW.out⟩
          · subst hb0
            obtain rfl:ec=0:=HEC.out
            obtain rfl:r=is:=by have:=HIS.out;simpa using this.symm
            have HOK:=Lib.hid (HB0.out.1 rfl)
            have TQ:Hid (TxtQs N q ss):=Lib.hid ⟨fun j hj=>⟨(HQ.out j (HOK.out j hj)).1,maxD_pow (by decide) (HQ.out j (HOK.out j hj)).2.1,maxD_pow (by decide) (HQ.out j (HOK.out j hj)).2.2⟩⟩
            have HRR:Hid (r=true↔RClr N x d2 q N):=Lib.hid (HR.out.trans ((gd_iff HRG.out HD0.out).trans ⟨rclr_of2,clr_of⟩))
            clear HIS HEC HB0 HR
            rcases r with _ | _
            · go_wp2_with (first
                | (go_at_call 33;(with_reducible refine (qs_any _ N q ss _ ST.out (by omega) TQ.out).mono ?_);rintro e w7 ⟨qa,qk,qx,rfl,hq7,hb7⟩;have QS:=Lib.hid (VSl.of (hq7.sl h1));have HC:=Lib.hid (HC.out.mono hb7 (Nat.le_refl _));have HD2:=Lib.hid (HD2.out.mono hb7 (Nat.le_refl _));have KW:=Lib.hid (KW.out.trans (hb7.mono KW.out.size));clear hb7 hq7)
                | (go_at_call 32;(with_reducible refine (rclears_any _ _ _ N x d2 q 1000 false _ HRR.out HC.out HD2.out QS.out h8 HCB.out HD0.out (fun i j hi hj=>(HRG.out.deb i j hi hj).2) (fun i hi=>(HRG.out.tot i hi).2) (by omega) (by omega)).mono ?_);rintro e w8 ⟨rfl,hb8⟩;have KW:=Lib.hid (KW.out.trans (hb8.mono KW.out.size));clear hb8)
                | (go_at_call 13;(with_reducible refine (lives_true _).mono ?_);rintro e w10 ⟨rfl,hb10⟩;have KW:=Lib.hid (KW.out.trans (hb10.mono KW.out.size));clear hb10))
              go_ret
              exact⟨rfl,KW.out⟩
            · have HRT:=Lib.hid (HRR.out.1 rfl)
              clear HRR
              go_wp2_with (first
                | (go_at_call 33;(with_reducible refine (qs_any _ N q ss _ ST.out (by omega) TQ.out).mono ?_);rintro e w7 ⟨qa,qk,qx,rfl,hq7,hb7⟩;have QS:=Lib.hid (VSl.of (hq7.sl h1));have HC:=Lib.hid (HC.out.mono hb7 (Nat.le_refl _));have HD2:=Lib.hid (HD2.out.mono hb7 (Nat.le_refl _));have KW:=Lib.hid (KW.out.trans (hb7.mono KW.out.size));clear hb7 hq7)
                | (go_at_call 32;(with_reducible refine (rclears_any _ _ _ N x d2 q 1000 true _ ⟨fun _=>HRT.out,fun _=>rfl⟩ HC.out HD2.out QS.out h8 HCB.out HD0.out (fun i j hi hj=>(HRG.out.deb i j hi hj).2) (fun i hi=>(HRG.out.tot i hi).2) (by omega) (by omega)).mono ?_);rintro e w8 ⟨rfl,hb8⟩;have KW:=Lib.hid (KW.out.trans (hb8.mono KW.out.size));clear hb8)
                | (go_at_call 13;(with_reducible refine (lives_true _).mono ?_);rintro e w10 ⟨rfl,hb10⟩;have KW:=Lib.hid (KW.out.trans (hb10.mono KW.out.size));clear hb10))
              go_ret
              exact⟨rfl,KW.out⟩
      · have en:((N:Int) != (nc:Int))=true:=by simp;omega
        have HNN:=Lib.hid hNn
        clear hNn
        go_upto_block 2 with (first
          | (go_at_call 35;(with_reducible refine (clears_len _ _ va nc N vk x (fun _=>nc) (inD nc d) _ HC.out HD2.out HDB.out HCB.out HNN.out).mono ?_);rintro e w5 ⟨rfl,hb5⟩;have HC:=Lib.hid (HC.out.mono hb5 (Nat.le_refl _));have HD:=Lib.hid (HD.out.mono hb5 (Nat.le_refl _));clear HD2;have KW:=Lib.hid (KW.out.trans (hb5.mono KW.out.size));clear hb5)
          | (go_at_call 23;(with_reducible refine (market_any _ _ nc nc x m d true ⟨fun _=>HK.out,fun _=>rfl⟩ _ HC.out HD.out (by omega) (by omega)).mono ?_);rintro e w6 ⟨rfl,hd6⟩;have KW:=Lib.hid (KW.out.trans (hd6.below _));clear hd6 HD))
        have K0:=Lib.hid (Below.refl w6.heap.size w6)
        go_cut [13] (fun v13 wx=>v13 = .int .i64 2∧Hid (Below w6.heap.size w6 wx))
        case first=>
          go_wp2_with fail
          go_loopw [13,14] (fun v13 v14 wr=>v13 = .int .i64 2∧v14 = .int .i64 0∧Hid (Below w6.heap.size w6 wr)) (fun _ _ _=>0)
          case atStart=>exact⟨rfl,rfl,K0⟩
          case round=>
            obtain⟨rfl,rfl,K2⟩:=hrel
            have e3:((2:Int) == 0)=false:=rfl
            by_cases h:0<N
            · have e1:decide ((0:Int)<(N:Int))=true:=by simpa using h
              have e1n:decide (0<N)=true:=by simpa using h
              go_wp2_with fail
              go_meet
              case rel=>exact⟨rfl,K2⟩
            · have e1:decide ((0:Int)<(N:Int))=false:=by simpa using h
              have e1n:decide (0<N)=false:=by simpa using h
              go_wp2_with fail
              go_meet
              case rel=>exact⟨rfl,K2⟩
        case rest=>
          clear K0
          obtain⟨rfl,K2⟩:=hcut
          have KW:=Lib.hid (KW.out.trans (K2.out.mono KW.out.size))
          go_wp2_with (go_at_call 13;(with_reducible refine (lives_true _).mono ?_);rintro e w10 ⟨rfl,hb10⟩;have KW:=Lib.hid (KW.out.trans (hb10.mono KW.out.size));clear hb10)
          go_ret
          exact⟨rfl,KW.out⟩
    · have HK:=Lib.hid hK
      clear hK
      go_upto_block 2 with (first
        | (go_at_call 35;(with_reducible refine (clears_no _ _ _ nc n x m d _ HC.out HD.out (by omega) (by omega) HM.out HK.out).mono ?_);rintro e w5 ⟨rfl,hb5⟩;have HC:=Lib.hid (HC.out.mono hb5 (Nat.le_refl _));have HD:=Lib.hid (HD.out.mono hb5 (Nat.le_refl _));have KW:=Lib.hid (KW.out.trans (hb5.mono KW.out.size));clear hb5)
        | (go_at_call 23;(with_reducible refine (market_any _ _ nc n x m d false ⟨fun e=>Bool.noConfusion e,fun h=>absurd h HK.out⟩ _ HC.out HD.out (by omega) (by omega)).mono ?_);rintro e w6 ⟨rfl,hd6⟩;have KW:=Lib.hid (KW.out.trans (hd6.below _));clear hd6 HD))
      have K0:=Lib.hid (Below.refl w6.heap.size w6)
      go_cut [13] (fun v13 wx=>v13 = .int .i64 1∧Hid (Below w6.heap.size w6 wx))
      case first=>
        go_wp2_with fail
        go_loopw [13,14] (fun v13 v14 wr=>v13 = .int .i64 1∧v14 = .int .i64 0∧Hid (Below w6.heap.size w6 wr)) (fun _ _ _=>0)
        case atStart=>exact⟨rfl,rfl,K0⟩
        case round=>
          obtain⟨rfl,rfl,K2⟩:=hrel
          have e3:((1:Int) == 0)=false:=rfl
          by_cases h:0<N
          · have e1:decide ((0:Int)<(N:Int))=true:=by simpa using h
            have e1n:decide (0<N)=true:=by simpa using h
            go_wp2_with fail
            go_meet
            case rel=>exact⟨rfl,K2⟩
          · have e1:decide ((0:Int)<(N:Int))=false:=by simpa using h
            have e1n:decide (0<N)=false:=by simpa using h
            go_wp2_with fail
            go_meet
            case rel=>exact⟨rfl,K2⟩
      case rest=>
        clear K0
        obtain⟨rfl,K2⟩:=hcut
        have KW:=Lib.hid (KW.out.trans (K2.out.mono KW.out.size))
        go_wp2_with (go_at_call 13;(with_reducible refine (lives_true _).mono ?_);rintro e w10 ⟨rfl,hb10⟩;have KW:=Lib.hid (KW.out.trans (hb10.mono KW.out.size));clear hb10)
        go_ret
        exact⟨rfl,KW.out⟩
end Go.Proofs.YtgmopcncbpdniaaGreat
