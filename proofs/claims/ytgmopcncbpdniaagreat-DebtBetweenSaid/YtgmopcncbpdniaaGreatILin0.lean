import Derived.Test.YtgmopcncbpdniaaGreatIRat5
import Derived.Handy
import Derived.Laws.BytesString
import Derived.Test.YtgmopcncbpdniaaGreatITakes
import Derived.Deep.RegionLaw
set_option linter.unusedVariables false
set_option linter.unusedSimpArgs false
namespace Go.Proofs.YtgmopcncbpdniaaGreat
open Go.RowKit
attribute [local go_sem ↓] Go.wp_at_zero Go.wp_at_succ
structure IsMkt (w:World) (b n:Nat) (cash:Nat→Int) (d:Nat→Nat→Int) (vc vd vt:Value):Prop where
 c0:w.cell? ⟨b,0,none⟩=some (.int .i64 (n:Nat))
 c1:w.cell? ⟨b,1,none⟩=some vc
 c2:w.cell? ⟨b,2,none⟩=some vd
 c3:w.cell? ⟨b,3,none⟩=some vt
 hcash:Ints w vc n cash
 hdebt:Mat w vd n (fun _=>n) d
 htot:Ints w vt n (fun i=>sumF (d i) n)
 lt:b<w.heap.size
theorem IsMkt.mono {w w':World} {b n:Nat} {cash:Nat→Int} {d:Nat→Nat→Int} {vc vd vt:Value} {B:Nat} (h:IsMkt w b n cash d vc vd vt) (hb:Below B w w') (hB:w.heap.size≤B):IsMkt w' b n cash d vc vd vt:=
 have k:∀ o,w'.cell? ⟨b,o,none⟩=w.cell? ⟨b,o,none⟩:=fun o=>hb.cell (p:=⟨b,o,none⟩) (Nat.lt_of_lt_of_le h.lt hB)
 ⟨(k 0).trans h.c0,(k 1).trans h.c1,(k 2).trans h.c2,(k 3).trans h.c3,h.hcash.mono hb hB,h.hdebt.mono hb hB,h.htot.mono hb hB,Nat.lt_of_lt_of_le h.lt hb.size⟩
def shareQ (t x:Int):Rat:=if t=0 then 0 else (x:Rat) / (t:Rat)
theorem bel1 {w w':World} {B:Nat} {b o:Nat} {v:Value} (hb:Below B w w') (h:w.cell? ⟨b,o,none⟩=some v) (hB:b<B):w'.cell? ⟨b,o,none⟩=some v:=(hb.cell (p:=⟨b,o,none⟩) hB).trans h
set_option maxHeartbeats 2000000 in
theorem share_any (b n i j:Nat) (cash:Nat→Int) (d:Nat→Nat→Int) (vc vd vt:Value) (w:World) (hm:IsMkt w b n cash d vc vd vt) (hi:i<n) (hj:j<n)
  (hd0:0≤d i j) (hd1:d i j≤1000) (ht0:0≤sumF (d i) n) (ht1:sumF (d i) n≤100000) :
  Calls Tryz.prog 86 #[.pointer (some ⟨b,0,none⟩),.int .i64 (i:Nat),.int .i64 (j:Nat)] w fun e w'=>∃ r,e = .returned r∧RatIs w' r (shareQ (sumF (d i) n) (d i j)) 4∧Below w.heap.size w w':=by
 obtain⟨c0,c1,c2,c3,hcash,⟨da,db,d_o,dc,ra,rb,ro,rc,rfl,hdm⟩,⟨ta,tb,t_o,tc,rfl,hts⟩,hlt⟩:=hm
 have ixt:=fun W=>ixI hts i tc hi W
 have ixd:=fun W=>ixM hdm.top i dc hi W
 have ixe:=fun W=>ixI (hdm.row i hi) j (rc i) hj W
 have hct:=hts.cell i hi
 have hcd:=hdm.top.cell i hi
 have hce:=(hdm.row i hi).cell j hj
 have hlt1:=hts.lt (by omega)
 have hlt2:=hdm.top.lt (by omega)
 have hlt3:=(hdm.row i hi).lt (by omega)
 simp only [ic] at hct hce
 generalize hT:sumF (d i) n=T at *
 generalize hX:d i j=X at *
 clear hT hX hcash c0 c1
 have keepS:Hid (∀ w',Below w.heap.size w w'→w'.cell? ⟨b,2,none⟩=some (.slice da n dc)∧w'.cell? ⟨b,3,none⟩=some (.slice ta n tc)∧w'.cell? ⟨tb,t_o+i,none⟩=some (.int .i64 T)∧w'.cell? ⟨db,d_o+i,none⟩=some (.slice (ra i) n (rc i))∧w'.cell? ⟨rb i,ro i+j,none⟩=some (.int .i64 X)):=
  Lib.hid (fun w' hb=>⟨bel1 hb c2 hlt,bel1 hb c3 hlt,bel1 hb hct hlt1,bel1 hb hcd hlt2,bel1 hb hce hlt3⟩)
 have KW:Hid (Below w.heap.size w (w.alloc (Obj.cells #[.bool false,.slice none 0 0,.bool false,.slice none 0 0] 92))):=boxes1 w _
 have PO:Hid (Own4 (w.alloc (Obj.cells #[.bool false,.slice none 0 0,.bool false,.slice none 0 0] 92)) w.heap.size (.bool false) (.slice none 0 0) (.bool false) (.slice none 0 0)):=own4_new _ _ rfl _ _ _ _ _
 clear hts hdm c2 c3 hct hcd hce
 obtain⟨c2,c3,hct,hcd,hce⟩:=keepS.out _ KW.out
 by_cases h0:T=0
 ·have d0:(T == 0)=true:=by simpa using h0
  have H0:=Lib.hid h0
  clear h0
  go_enter Tryz.func86,Tryz.ntmps86
  go_wp2_with (first
   | (go_at_call 59;(with_reducible refine (rat_whole 0 (by omega) (by omega) _).mono ?_);rintro e w1 ⟨r1,rfl,hr1,hb1⟩;obtain⟨s1,a1,n1,c1,b1,m1,d1,rfl,KR⟩:=hr1.shape;clear hr1;have KW:=Lib.hid (KW.out.trans (hb1.mono KW.out.size));have PO:=Lib.hid (PO.out.below hb1 PO.out.lt);obtain⟨x0,x1,x2,x3,xf,xl⟩:=PO.out))
  refine bodyPost_ret (v:=.agg #[.bool s1,.slice a1 n1 c1,.bool false,.slice b1 m1 d1]) (by simp [results,Tryz.results86,go_sem,x0,x1,x2,x3,xf]) rfl ?_
  refine⟨_,rfl,RatIs.into (RatIs.le (m:=2) (by rw [shareQ,if_pos H0.out];exact KR.out) (by omega)) _ _ _ _ PO.out,below_set4 KW.out (by omega) _ _ _ _⟩
 ·have d0:(T == 0)=false:=by simpa using h0
  have HP:Hid (0<((T:Int):Rat).num):=Lib.hid (by rw [Rat.num_intCast];omega)
  have HQ:Hid ((X:Rat) / (T:Rat)=shareQ T X):=Lib.hid (by rw [shareQ,if_neg h0])
  clear h0
  go_enter Tryz.func86,Tryz.ntmps86
  go_wp2
  have KW0:=KW
  have KW:=Lib.hid KW.out.drew
  have PO:=Lib.hid PO.out.drew
  go_region_held3 (fun w'=>w'.cell? ⟨b,2,none⟩=some (.slice da n dc)∧w'.cell? ⟨b,3,none⟩=some (.slice ta n tc)∧w'.cell? ⟨tb,t_o+i,none⟩=some (.int .i64 T)∧w'.cell? ⟨db,d_o+i,none⟩=some (.slice (ra i) n (rc i))∧w'.cell? ⟨rb i,ro i+j,none⟩=some (.int .i64 X))
   (first | (with_reducible exact keepS.out _ KW0.out) | (with_reducible exact keepS.out _ KW.out) | (with_reducible exact keepS.out _ (below_set4 KW.out (Nat.le_refl _) _ _ _ _)))
   (first
   | (go_at_call 59;(with_reducible refine (rat_whole X (by omega) (by omega) _).mono ?_);rintro e w1 ⟨r1,rfl,hr1,hb1⟩;(try have K2:=Lib.hid (K2.out.mono hb1 (Nat.le_refl _)));obtain⟨s1,a1,n1,c1,b1,m1,d1,rfl,K1⟩:=hr1.shape;clear hr1;have KW:=Lib.hid (KW.out.trans (hb1.mono KW.out.size));have PO:=Lib.hid (PO.out.below hb1 PO.out.lt))
   | (go_at_call 59;(with_reducible refine (rat_whole T (by omega) (by omega) _).mono ?_);rintro e w2 ⟨r2,rfl,hr2,hb2⟩;(try have K1:=Lib.hid (K1.out.mono hb2 (Nat.le_refl _)));obtain⟨s2,a2,n2,e2,b2,m2,d2,rfl,K2⟩:=hr2.shape;clear hr2;have KW:=Lib.hid (KW.out.trans (hb2.mono KW.out.size));have PO:=Lib.hid (PO.out.below hb2 PO.out.lt))
   | (go_at_call 122;(with_reducible refine (rat_div _ _ (X:Rat) (T:Rat) 2 _ K1.out K2.out HP.out (by omega) (by omega)).mono ?_);rintro e w3 ⟨r3,rfl,hr3,hb3⟩;rw [HQ.out] at hr3;obtain⟨s3,a3,n3,c3',b3,m3,d3,rfl,KR⟩:=hr3.shape;clear hr3;have KW:=Lib.hid (KW.out.trans (hb3.mono KW.out.size));have PO:=Lib.hid (PO.out.below hb3 PO.out.lt);obtain⟨x0,x1,x2,x3,xf,xl⟩:=PO.out))
  all_goals (try go_wp2)
  all_goals
   refine bodyPost_ret (v:=.agg #[.bool s3,.slice a3 n3 c3',.bool false,.slice b3 m3 d3]) (by simp [results,Tryz.results86,go_sem,x0,x1,x2,x3,xf]) rfl ?_
   exact⟨_,rfl,RatIs.into KR.out _ _ _ _ PO.out,below_set4 KW.out (by omega) _ _ _ _⟩
end Go.Proofs.YtgmopcncbpdniaaGreat
namespace Go.Proofs.YtgmopcncbpdniaaGreat
def sumQ (f:Nat→Rat):Nat→Rat
 | 0=>0
 | n+1=>sumQ f n+f n
theorem sumQ_congr {f g:Nat→Rat} : ∀ n,(∀ i,i<n→f i=g i)→sumQ f n=sumQ g n
 | 0,_=>rfl
 | n+1,h=>by simp only [sumQ];rw [sumQ_congr n (fun i hi=>h i (by omega)),h n (by omega)]
theorem sumQ_add (f g:Nat→Rat):∀ n,sumQ (fun i=>f i+g i) n=sumQ f n+sumQ g n
 | 0=>by simp only [sumQ];grind
 | n+1=>by simp only [sumQ];rw [sumQ_add f g n];grind
theorem sumQ_mul (c:Rat) (f:Nat→Rat):∀ n,sumQ (fun i=>c*f i) n=c*sumQ f n
 | 0=>by simp only [sumQ];grind
 | n+1=>by simp only [sumQ];rw [sumQ_mul c f n];grind
theorem sumQ_sub (f g:Nat→Rat):∀ n,sumQ (fun i=>f i - g i) n=sumQ f n - sumQ g n
 | 0=>by simp only [sumQ];grind
 | n+1=>by simp only [sumQ];rw [sumQ_sub f g n];grind
theorem sumQ_zero:∀ n,sumQ (fun _=>0) n=0
 | 0=>rfl
 | n+1=>by simp only [sumQ];rw [sumQ_zero n];grind
theorem sumQ_eq_zero {f:Nat→Rat} (n:Nat) (h:∀ i,i<n→f i=0):sumQ f n=0:=(sumQ_congr n h).trans (sumQ_zero n)
theorem sumQ_le {f g:Nat→Rat} : ∀ n,(∀ i,i<n→f i≤g i)→sumQ f n≤sumQ g n
 | 0,_=>by simp only [sumQ];grind
 | n+1,h=>by
  have h1:=sumQ_le n (fun i hi=>h i (by omega))
  have h2:=h n (by omega)
  simp only [sumQ];grind
theorem sumQ_nonneg {f:Nat→Rat} (n:Nat) (h:∀ i,i<n→0≤f i):0≤sumQ f n:=by
 have:=sumQ_le (f:=fun _=>0) (g:=f) n h
 rwa [sumQ_zero] at this
theorem sumQ_le_eq {f g:Nat→Rat} : ∀ n,(∀ i,i<n→f i≤g i)→sumQ g n≤sumQ f n→∀ i,i<n→f i=g i
 | 0,_,_=>fun i hi=>by omega
 | n+1,h,h2=>fun i hi=>by
  have h1:=sumQ_le n (fun i hi=>h i (by omega))
  have h3:=h n (by omega)
  simp only [sumQ] at h2
  by_cases e:i=n
  ·subst e;grind
  ·exact sumQ_le_eq n (fun i hi=>h i (by omega)) (by grind) i (by omega)
theorem sumQ_swap (f:Nat→Nat→Rat) (m:Nat):∀ n,sumQ (fun i=>sumQ (fun j=>f i j) m) n=sumQ (fun j=>sumQ (fun i=>f i j) n) m
 | 0=>by simp only [sumQ];rw [sumQ_zero]
 | n+1=>by
  simp only [sumQ]
  rw [sumQ_swap f m n,sumQ_add]
theorem sumQ_one (f:Nat→Rat) (k:Nat):∀ n,k<n→(∀ i,i<n→i≠k→f i=0)→sumQ f n=f k
 | 0,h,_=>by omega
 | n+1,h,hz=>by
  simp only [sumQ]
  by_cases e:k=n
  ·subst e
   rw [sumQ_eq_zero k (fun i hi=>hz i (by omega) (by omega))];grind
  ·rw [sumQ_one f k n (by omega) (fun i hi=>hz i (by omega)),hz n (by omega) (by omega)];grind
theorem sumQ_pos {f:Nat→Rat} (n k:Nat) (hk:k<n) (h:∀ i,i<n→0≤f i) (hp:0<f k):0<sumQ f n:=by
 have h1:sumQ (fun i=>if i=k then f k else 0) n≤sumQ f n:=sumQ_le n (fun i hi=>by
  by_cases e:i=k
  ·subst e;simp
  ·simp [e];exact h i hi)
 rw [sumQ_one _ k n hk (fun i _ hi=>by simp [hi])] at h1
 simp at h1
 grind
structure Shr (n:Nat) (S:Nat→Nat→Rat):Prop where
 pos:∀ j i,0≤S j i
 one:∀ j,j<n→sumQ (fun i=>S j i) n≤1
def NoClosed (n:Nat) (S:Nat→Nat→Rat) (F:Nat→Prop):Prop:=
 ∀ Z:Nat→Prop,(∀ i,Z i→i<n∧F i)→(∀ j,Z j→sumQ (fun i=>S j i) n=1∧∀ i,i<n→¬ Z i→S j i=0)→∀ i,¬ Z i
theorem kernel {n:Nat} {S:Nat→Nat→Rat} {F:Nat→Prop} (hS:Shr n S) (hF:NoClosed n S F) (u:Nat→Rat) (h0:∀ i,0≤u i) (hs:∀ i,i<n→¬ F i→u i=0)
  (hle:∀ i,i<n→F i→u i≤sumQ (fun j=>u j*S j i) n):∀ i,i<n→u i=0:=by
 have hr:∀ i,i<n→u i≤sumQ (fun j=>u j*S j i) n:=fun i hi=>by
  by_cases h:F i
  ·exact hle i hi h
  ·rw [hs i hi h]
   exact sumQ_nonneg n (fun j _=>Rat.mul_nonneg (h0 j) (hS.pos j i))
 have h1:sumQ (fun i=>sumQ (fun j=>u j*S j i) n) n=sumQ (fun j=>u j*sumQ (fun i=>S j i) n) n:=by
  rw [sumQ_swap (fun i j=>u j*S j i)]
  exact sumQ_congr n (fun j _=>sumQ_mul _ _ _)
 have h2:∀ j,j<n→u j*sumQ (fun i=>S j i) n≤u j:=fun j hj=>by
  have:=Rat.mul_le_mul_of_nonneg_left (hS.one j hj) (h0 j)
  grind
 have h3:=sumQ_le n h2
 have h4:=sumQ_le n hr
 have h5:=sumQ_le_eq n hr (by grind)
 have h6:=sumQ_le_eq n h2 (by grind)
 have:=hF (fun i=>i<n∧u i≠0) (fun i hi=>⟨hi.1,Classical.byContradiction (fun h=>hi.2 (hs i hi.1 h))⟩) (fun j hj=>by
  refine⟨?_,fun i hi hn=>?_⟩
  ·have:=h6 j hj.1
   have e:=hj.2
   grind
  ·have hu:u i=0:=Classical.byContradiction (fun h=>hn ⟨hi,h⟩)
   have hz:=h5 i hi
   rw [hu] at hz
   have hz2:=sumQ_le_eq (f:=fun _=>0) (g:=fun j=>u j*S j i) n (fun j _=>Rat.mul_nonneg (h0 j) (hS.pos j i)) (by rw [sumQ_zero,←hz];exact Rat.le_refl) j hj.1
   have e:=hj.2
   grind)
 intro i hi
 exact Classical.byContradiction (fun h=>this i ⟨hi,h⟩)
def up0 (x:Rat):Rat:=if 0≤x then x else 0
theorem up0_nonneg (x:Rat):0≤up0 x:=by unfold up0;split <;> grind
theorem up0_ge (x:Rat):x≤up0 x:=by unfold up0;split <;> grind
theorem up0_le {x y:Rat} (h:x≤y) (hy:0≤y):up0 x≤y:=by unfold up0;split <;> grind
theorem up0_zero {x:Rat} (h:up0 x=0):x≤0:=by have:=up0_ge x;grind
theorem below_zero {n:Nat} {S:Nat→Nat→Rat} {F:Nat→Prop} (hS:Shr n S) (hF:NoClosed n S F) (d:Nat→Rat) (hs:∀ i,i<n→¬ F i→d i≤0)
  (hle:∀ i,i<n→F i→d i≤sumQ (fun j=>d j*S j i) n):∀ i,i<n→d i≤0:=by
 have h:=kernel hS hF (fun i=>up0 (d i)) (fun i=>up0_nonneg _) (fun i hi hn=>by
  have:=hs i hi hn
  show up0 (d i)=0
  unfold up0
  split <;> grind) (fun i hi hf=>by
  refine up0_le (Rat.le_trans (hle i hi hf) (sumQ_le n (fun j _=>Rat.mul_le_mul_of_nonneg_right (up0_ge _) (hS.pos j i)))) (sumQ_nonneg n (fun j _=>Rat.mul_nonneg (up0_nonneg _) (hS.pos j i))))
 exact fun i hi=>up0_zero (h i hi)
end Go.Proofs.YtgmopcncbpdniaaGreat
namespace Go.Proofs.YtgmopcncbpdniaaGreat
open Go.RowKit
attribute [local go_sem ↓] Go.wp_at_zero Go.wp_at_succ
theorem rats_s:Tryz.prog.underlying 73=some (.slice (Tryz.prog.elem 73)):=by kernel_rfl
theorem rats_z (W:World):(sizeOf (Tryz.prog.elem 73)).run Tryz.prog W = .ok 4 W:=by kernel_rfl
theorem ixR (b o n c i:Nat) (hi:i<n) (W:World) :
  (Instr.indexAt 73 (.slice (some ⟨b,o,none⟩) n c) (.int .i64 (i:Int))).run Tryz.prog W = .ok (.pointer (some ⟨b,o+i*4,none⟩)) W:=by
 rw [run_indexAt_slice W _ _ _ _ _ _ rats_s,if_pos ⟨by omega,by omega⟩,rats_z]
 simp only [Result.andThen,Int.toNat_natCast]
 congr 3
 unfold Addr.add
 split
 ·rename_i h;simp [show i=0 by omega]
 ·rfl
theorem Rd4.drew {w:World} {b o:Nat} {x y z u:Value} (h:Rd4 w b o x y z u):Rd4 w.drew b o x y z u:=⟨h.c0,h.c1,h.c2,h.c3,h.lt⟩
def IsRats (w:World) (pb po n:Nat) (q:Nat→Rat) (K:Nat):Prop:=
 ∀ j,j<n→∃ s a m c a2 m2 c2,Rd4 w pb (po+j*4) (.bool s) (.slice a m c) (.bool false) (.slice a2 m2 c2)∧RatIs w (.agg #[.bool s,.slice a m c,.bool false,.slice a2 m2 c2]) (q j) K
theorem IsRats.mono {w w':World} {pb po n K B:Nat} {q:Nat→Rat} (h:IsRats w pb po n q K) (hb:Below B w w') (hB:w.heap.size≤B):IsRats w' pb po n q K:=fun j hj=>by
 obtain⟨s,a,m,c,a2,m2,c2,h1,h2⟩:=h j hj
 exact⟨s,a,m,c,a2,m2,c2,h1.below hb (Nat.lt_of_lt_of_le h1.lt hB),h2.mono hb hB⟩
def hasQ (n:Nat) (cash:Nat→Int) (d:Nat→Nat→Int) (q:Nat→Rat) (i:Nat):Rat:=
 (cash i:Rat)+sumQ (fun j=>q j*shareQ (sumF (d j) n) (d j i)) n
theorem RatIs.into' {w:World} {v:Value} {q:Rat} {m b:Nat} {s a c a2 c2:_} {n n2:Nat} (h:RatIs w v q m) (u0 u1 u2 u3:Value) (ho:Own4 w b (.bool s) (.slice a n c) (.bool false) (.slice a2 n2 c2)) :
  RatIs ((((w.setCell ⟨b,0,none⟩ u0).setCell ⟨b,1,none⟩ u1).setCell ⟨b,2,none⟩ u2).setCell ⟨b,3,none⟩ u3) v q m:=
 h.store4 u0 u1 u2 u3 ho.c0 ho.c1 ho.c2 ho.c3 (noInt_bool _) (noInt_slice _ _ _) (noInt_bool _) (noInt_slice _ _ _)
set_option maxHeartbeats 4000000 in
theorem has_any (b n i:Nat) (cash:Nat→Int) (d:Nat→Nat→Int) (vc vd vt:Value) (w:World) (hm:IsMkt w b n cash d vc vd vt) (hi:i<n) (hn:n≤8)
  (hD:∀ j,j<n→0≤d j i∧d j i≤1000∧0≤sumF (d j) n∧sumF (d j) n≤100000) (hC:0≤cash i∧cash i≤100000)
  (pb po pc:Nat) (q:Nat→Rat) (K:Nat) (hp:IsRats w pb po n q K) (hK:4≤K) (hK2:K≤268435456) :
  Calls Tryz.prog 51 #[.pointer (some ⟨b,0,none⟩),.int .i64 (i:Nat),.slice (some ⟨pb,po,none⟩) n pc] w fun e w'=>∃ r,e = .returned r∧RatIs w' r (hasQ n cash d q i) (512*(K+1))∧Below w.heap.size w w':=by
 have HM:=Lib.hid hm
 have HPR:=Lib.hid hp
 have HD:=Lib.hid hD
 obtain⟨c0,c1,c2,c3,⟨ca,cb,co,cc,rfl,hcs⟩,-,-,hlt⟩:=hm
 clear hp hD c2 c3
 have ixc:=fun W=>ixI hcs i cc hi W
 have hcc:=hcs.cell i hi
 have hclt:=hcs.lt (by omega)
 simp only [ic] at hcc
 obtain⟨hC0,hC1⟩:=hC
 have hlen:0<n:=by omega
 have KW:Hid (Below w.heap.size w (w.alloc (Obj.cells #[.bool false,.slice none 0 0,.bool false,.slice none 0 0] 92))):=boxes1 w _
 have PO:Hid (Own4 (w.alloc (Obj.cells #[.bool false,.slice none 0 0,.bool false,.slice none 0 0] 92)) w.heap.size (.bool false) (.slice none 0 0) (.bool false) (.slice none 0 0)):=own4_new _ _ rfl _ _ _ _ _
 have keepS:Hid (∀ w',Below w.heap.size w w'→w'.cell? ⟨b,0,none⟩=some (.int .i64 (n:Nat))∧w'.cell? ⟨b,1,none⟩=some (.slice ca n cc)∧w'.cell? ⟨cb,co+i,none⟩=some (.int .i64 (cash i))):=
  Lib.hid (fun w' hb=>⟨bel1 hb c0 hlt,bel1 hb c1 hlt,bel1 hb hcc hclt⟩)
 clear hcs c0 c1 hcc
 obtain⟨c0,c1,hcc⟩:=keepS.out _ KW.out
 go_enter Tryz.func51,Tryz.ntmps51
 go_wp2_with (first
   | (go_at_call 59;(with_reducible refine (rat_whole (cash i) (by omega) (by omega) _).mono ?_);rintro e w1 ⟨r1,rfl,hr1,hb1⟩;obtain⟨s1,a1,n1,c1',b1,m1,d1,rfl,KR⟩:=hr1.shape;clear hr1;have KW:=Lib.hid (KW.out.trans (hb1.mono KW.out.size));have PO:=Lib.hid (PO.out.below hb1 PO.out.lt);clear c0 c1 hcc;obtain⟨c0,c1,hcc⟩:=keepS.out _ KW.out;have hz1:w.heap.size<w1.heap.size:=PO.out.lt;have hblt:b<w1.heap.size:=(by omega)))
 have PS:Hid (Own4 (w1.alloc (Obj.cells #[.bool s1,.slice a1 n1 c1',.bool false,.slice b1 m1 d1] 92)) w1.heap.size (.bool s1) (.slice a1 n1 c1') (.bool false) (.slice b1 m1 d1)):=own4_new _ _ rfl _ _ _ _ _
 have KWA:Hid (Below w.heap.size w (w1.alloc (Obj.cells #[.bool s1,.slice a1 n1 c1',.bool false,.slice b1 m1 d1] 92))):=KW.out.alloc KW.out.size _
 have POA:Hid (Own4 (w1.alloc (Obj.cells #[.bool s1,.slice a1 n1 c1',.bool false,.slice b1 m1 d1] 92)) w.heap.size (.bool false) (.slice none 0 0) (.bool false) (.slice none 0 0)):=PO.out.alloc _
 have KRA:=Lib.hid (KR.out.mono (boxes1 w1 (Obj.cells #[.bool s1,.slice a1 n1 c1',.bool false,.slice b1 m1 d1] 92)) (Nat.le_refl _))
 have HPW:∀ k,k≤n→2 ^ k*(2*K+2)≤256*(2*K+2)∧2*K+2≤2 ^ k*(2*K+2):=fun k hk=>by
  have h1:2 ^ k≤2 ^ 8:=Nat.pow_le_pow_right (by omega) (by omega)
  have h2:1≤2 ^ k:=Nat.one_le_two_pow
  exact⟨Nat.mul_le_mul_right _ h1,by have:=Nat.mul_le_mul_right (2*K+2) h2;omega⟩
 have HPW:=Lib.hid HPW
 have hsb:=hz1
 clear PS KW PO KR hb1 c0 c1 hcc ixc
 go_loopw [8,21] (fun v8 v21 wr=>∃ k:Nat,k≤n∧v21 = .int .i64 (k:Nat)∧∃ s a m c a2 m2 c2 B,Hid (Own4 wr w1.heap.size (.bool s) (.slice a m c) (.bool false) (.slice a2 m2 c2))∧
   Hid (RatIs wr (.agg #[.bool s,.slice a m c,.bool false,.slice a2 m2 c2]) ((cash i:Rat)+sumQ (fun j=>q j*shareQ (sumF (d j) n) (d j i)) k) B)∧Hid (B+1=2 ^ k*(2*K+2))∧
   Hid (Own4 wr w.heap.size (.bool false) (.slice none 0 0) (.bool false) (.slice none 0 0))∧Hid (Below w.heap.size w wr)) (fun _ v21 _=>n - (intOf v21).toNat)
 case atStart=>
  refine⟨0,by omega,rfl,s1,a1,n1,c1',b1,m1,d1,2*K+1,own4_new _ _ rfl _ _ _ _ _,?_,?_,POA,KWA⟩
  ·exact Lib.hid (by rw [sumQ,Rat.add_zero];exact KRA.out.le (by omega))
  ·exact Lib.hid (by rw [Nat.pow_zero,Nat.one_mul])
 case round=>
  obtain⟨k,hk,rfl,s,a,m,c,a2,m2,c2,B,PS,KS,HB,PO,KW⟩:=hrel
  by_cases h:k<n
  ·obtain⟨s',a',m',c',a2',m2',c2',PP,KP⟩:=(HPR.out.mono KW.out (Nat.le_refl _)) k h
   have PP:=Lib.hid PP
   have KP:=Lib.hid KP
   have hb1:=HPW.out k hk
   have hb2:=HB.out
   have hBK:2*K+1≤B:=by omega
   have hBb:2*B+1≤549755813888:=by omega
   clear hb1 hb2
   obtain⟨hd1,hd2,hd3,hd4⟩:=HD.out k h
   have HD4:=Lib.hid (show 0≤d k i∧d k i≤1000∧0≤sumF (d k) n∧sumF (d k) n≤100000 from ⟨hd1,hd2,hd3,hd4⟩)
   clear hd1 hd2 hd3 hd4
   have ixr:=fun W=>ixR pb po n pc k h W
   have PS0:=PS
   have PS:=Lib.hid PS.out.drew
   have PO:=Lib.hid PO.out.drew
   have KS:=Lib.hid (KS.out.drew)
   have KP:=Lib.hid (KP.out.drew)
   have PP0:=PP
   have PP:=Lib.hid PP.out.drew
   have KW:=Lib.hid KW.out.drew
   have HMk:=Lib.hid (HM.out.mono KW.out (Nat.le_refl _))
   obtain⟨x0,x1,x2,x3,xf,xl⟩:=PS0.out
   obtain⟨y0,y1,y2,y3,yl⟩:=PP0.out
   go_wp2
   go_region_with (first
    | (go_at_call 86;go_loud ((with_reducible refine (share_any b n k i cash d _ _ _ _ HMk.out h hi HD4.out.1 HD4.out.2.1 HD4.out.2.2.1 HD4.out.2.2.2).mono ?_);rintro e w2 ⟨r2,rfl,hr2,hb2⟩;have KS:=Lib.hid (KS.out.mono hb2 (Nat.le_refl _));have KP:=Lib.hid (KP.out.mono hb2 (Nat.le_refl _));have PP:=Lib.hid (PP.out.below hb2 PP.out.lt);obtain⟨s2,e2,n2,f2,b2,m2x,d2,rfl,KH⟩:=hr2.shape;clear hr2;have KW:=Lib.hid (KW.out.trans (hb2.mono KW.out.size));have PO:=Lib.hid (PO.out.below hb2 PO.out.lt);have PS:=Lib.hid (PS.out.below hb2 PS.out.lt);obtain⟨u0,u1,u2,u3,uf,ul⟩:=PS.out;obtain⟨v0,v1,v2,v3,vl⟩:=PP.out))
    | (go_at_call 85;(with_reducible refine (rat_mul _ _ (q k) (shareQ (sumF (d k) n) (d k i)) K _ KP.out (KH.out.le hK) (by omega) (by omega)).mono ?_);rintro e w3 ⟨r3,rfl,hr3,hb3⟩;have KS:=Lib.hid (KS.out.mono hb3 (Nat.le_refl _));obtain⟨s3,e3,n3,f3,b3,m3x,d3,rfl,KM⟩:=hr3.shape;clear hr3;have KW:=Lib.hid (KW.out.trans (hb3.mono KW.out.size));have PO:=Lib.hid (PO.out.below hb3 PO.out.lt);have PS:=Lib.hid (PS.out.below hb3 PS.out.lt);obtain⟨g0,g1,g2,g3,gf,gl⟩:=PS.out)
    | (go_at_call 61;(with_reducible refine (rat_add _ _ _ (q k*shareQ (sumF (d k) n) (d k i)) B _ KS.out (KM.out.le (by omega)) (by omega) hBb).mono ?_);rintro e w4 ⟨r4,rfl,hr4,hb4⟩;obtain⟨s4,e4,n4,f4,b4,m4x,d4,rfl,KA⟩:=hr4.shape;clear hr4;have KW:=Lib.hid (KW.out.trans (hb4.mono KW.out.size));have PO:=Lib.hid (PO.out.below hb4 PO.out.lt);have PS:=Lib.hid (PS.out.below hb4 PS.out.lt);obtain⟨t0,t1,t2,t3,tf,tl⟩:=PS.out))
   all_goals go_wp2
   all_goals
    go_roundw
    case rel=>
     refine⟨k+1,by omega,by go_num,s4,e4,n4,f4,b4,m4x,d4,2*B+1,PS.out.anew _ _ _ _,Lib.hid ?_,Lib.hid ?_,PO.out.set4 _ _ _ _ _ (by omega),below_set4 KW.out (by omega) _ _ _ _⟩
     ·rw [sumQ,←Rat.add_assoc]
      exact RatIs.into' KA.out _ _ _ _ PS.out
     ·have:=HB.out
      rw [Nat.pow_succ,Nat.mul_comm (2 ^ k) 2,Nat.mul_assoc];omega
    case measure=>simp [intOf];omega
  ·obtain rfl:k=n:=by omega
   obtain⟨x0,x1,x2,x3,xf,xl⟩:=PS.out
   obtain⟨y0,y1,y2,y3,yf,yl⟩:=PO.out
   have hb1:=(HPW.out k hk).1
   have hb2:=HB.out
   have hB:B≤512*(K+1):=by omega
   clear hb1 hb2
   go_wp2
   refine bodyPost_ret (v:=.agg #[.bool s,.slice a m c,.bool false,.slice a2 m2 c2]) (by simp [results,Tryz.results51,go_sem,y0,y1,y2,y3,yf]) rfl ?_
   exact⟨_,rfl,RatIs.into (KS.out.le hB) _ _ _ _ PO.out,below_set4 KW.out (by omega) _ _ _ _⟩
end Go.Proofs.YtgmopcncbpdniaaGreat
namespace Go.Proofs.YtgmopcncbpdniaaGreat
open Go.RowKit
attribute [local go_sem ↓] Go.wp_at_zero Go.wp_at_succ
theorem infoR:(Tryz.prog.info? 92).map (fun i=>(i.zero,i.size,i.bytes))=some (some (.agg #[.bool false,.slice none 0 0,.bool false,.slice none 0 0]),4,64):=by kernel_rfl
theorem infoRs:(Tryz.prog.info? 73).map (fun i=>(i.zero,i.size,i.bytes))=some (some (.slice none 0 0),1,24):=by kernel_rfl
theorem mkR0 (W:World):(Instr.makeSlice 73 (.int .i64 0) (.int .i64 0)).run Tryz.prog W = .ok (.slice (some ⟨W.heap.size,0,none⟩) 0 0) (W.alloc (.cells #[] 92)):=by
 obtain⟨i0,hi,hz0,hz1,hz2⟩:=info_parts infoR
 have h:=run_make (P:=Tryz.prog) W 73 92 i0 _ Tryz.underlying73 hi hz0 .i64 .i64 0 0 (by omega) (by omega) (by rw [hz2];omega) (by omega)
 have e:madeCells (Value.agg #[.bool false,.slice none 0 0,.bool false,.slice none 0 0]).cells ((0:Int).toNat*4) = #[]:=by kernel_rfl
 rw [h,hz1,e]
 rfl
theorem mkM0 (W:World):(Instr.makeSlice 154 (.int .i64 0) (.int .i64 0)).run Tryz.prog W = .ok (.slice (some ⟨W.heap.size,0,none⟩) 0 0) (W.alloc (.cells #[] 73)):=by
 obtain⟨i0,hi,hz0,hz1,hz2⟩:=info_parts infoRs
 have h:=run_make (P:=Tryz.prog) W 154 73 i0 _ Tryz.underlying154 hi hz0 .i64 .i64 0 0 (by omega) (by omega) (by rw [hz2];omega) (by omega)
 have e:madeCells (Value.slice none 0 0).cells ((0:Int).toNat*1) = #[]:=by kernel_rfl
 rw [h,hz1,e]
 rfl
set_option maxHeartbeats 1000000 in
theorem zero_none (w:World):Calls Tryz.prog 113 #[.int .i64 0,.int .i64 0] w fun e w'=>∃ g,e = .returned (.slice (some ⟨g,0,none⟩) 0 0)∧Below w.heap.size w w':=by
 have hmk:=mkM0
 go_enter Tryz.func113,Tryz.ntmps113
 go_wp2
 go_rounds 1
 go_ret
 exact⟨_,rfl,(Below.refl _ _).alloc (Nat.le_refl _) _⟩
set_option maxHeartbeats 1000000 in
theorem triangle_none (a:Option Addr) (c:Nat) (w:World):Calls Tryz.prog 139 #[.slice a 0 c] w fun e w'=>(∃ r,e = .returned r)∧Below w.heap.size w w':=by
 have KW:Hid (Below w.heap.size w (w.alloc (Obj.cells #[.bool false,.slice none 0 0,.bool false,.slice none 0 0] 92))):=boxes1 w _
 have PO:Hid (Own4 (w.alloc (Obj.cells #[.bool false,.slice none 0 0,.bool false,.slice none 0 0] 92)) w.heap.size (.bool false) (.slice none 0 0) (.bool false) (.slice none 0 0)):=own4_new _ _ rfl _ _ _ _ _
 go_enter Tryz.func139,Tryz.ntmps139
 go_wp2_with (first
   | (go_at_call 59;(with_reducible refine (rat_whole 1 (by omega) (by omega) _).mono ?_);rintro e w1 ⟨r1,rfl,hr1,hb1⟩;obtain⟨s1,a1,n1,c1,b1,m1,d1,rfl,KR⟩:=hr1.shape;clear hr1;have KW:=Lib.hid (KW.out.trans (hb1.mono KW.out.size));have PO:=Lib.hid (PO.out.below hb1 PO.out.lt);obtain⟨x0,x1,x2,x3,xf,xl⟩:=PO.out))
 go_rounds 1
 have PF:=Lib.hid ((PO.out.anew (.bool s1) (.slice a1 n1 c1) (.bool false) (.slice b1 m1 d1)).alloc (Obj.cells #[.bool s1,.slice a1 n1 c1,.bool false,.slice b1 m1 d1] 92))
 obtain⟨y0,y1,y2,y3,yf,yl⟩:=PF.out
 refine bodyPost_ret (v:=.agg #[.bool s1,.slice a1 n1 c1,.bool false,.slice b1 m1 d1]) (by simp [results,Tryz.results139,go_sem,y0,y1,y2,y3,yf]) rfl ?_
 exact⟨⟨_,rfl⟩,(below_set4 KW.out (by omega) _ _ _ _).alloc (by simp only [World.setCell,Array.size_modify];exact KW.out.size) _⟩
set_option maxHeartbeats 1000000 in
theorem lsolve_none (a:Option Addr) (c:Nat) (v:Value) (w:World):Calls Tryz.prog 115 #[.slice a 0 c,v] w fun e w'=>∃ g,e = .returned (.slice (some ⟨g,0,none⟩) 0 0)∧Below w.heap.size w w':=by
 have hmk:=mkR0
 go_enter Tryz.func115,Tryz.ntmps115
 go_wp2
 refine wp_loop_rounds 1 ?_
 rw [rounds_succ]
 go_wp2_with (first
   | (go_at_call 139;(with_reducible refine (triangle_none _ _ _).mono ?_);rintro e w1 ⟨⟨r1,rfl⟩,hb1⟩))
 go_rounds 1
 go_ret
 exact⟨_,rfl,hb1.alloc hb1.size _⟩
end Go.Proofs.YtgmopcncbpdniaaGreat
