import Derived.Test.YtgmopcncbpdniaaGreatIArcs
set_option linter.unusedVariables false
set_option linter.unusedSimpArgs false
namespace Go.Proofs.YtgmopcncbpdniaaGreat
open Go.RowKit
structure ArcRow (w:World) (g m R:Nat) (l:Nat→Arc):Prop where
  c0:∀ k,k<m→w.cell? ⟨g,k*5,none⟩=some (.int .i64 ((l k).src:Nat))
  c1:∀ k,k<m→w.cell? ⟨g,k*5+1,none⟩=some (.int .i64 ((l k).dst:Nat))
  c2:∀ k,k<m→w.cell? ⟨g,k*5+2,none⟩=some (.int .i64 (l k).c)
  c3:∀ k,k<m→w.cell? ⟨g,k*5+3,none⟩=some (.int .i64 (l k).most)
  c4:∀ k,k<m→w.cell? ⟨g,k*5+4,none⟩=some (.pointer (some ⟨R+1+(l k).pi,(l k).pj,none⟩))
  lt:g<w.heap.size
theorem ArcRow.below {w w':World} {g m R B:Nat} {l:Nat→Arc} (h:ArcRow w g m R l) (hb:Below B w w') (hB:g<B):ArcRow w' g m R l:=
  ⟨fun k hk=>(hb.cell (p:=⟨g,_,none⟩) hB).trans (h.c0 k hk),fun k hk=>(hb.cell (p:=⟨g,_,none⟩) hB).trans (h.c1 k hk),fun k hk=>(hb.cell (p:=⟨g,_,none⟩) hB).trans (h.c2 k hk),fun k hk=>(hb.cell (p:=⟨g,_,none⟩) hB).trans (h.c3 k hk),fun k hk=>(hb.cell (p:=⟨g,_,none⟩) hB).trans (h.c4 k hk),Nat.lt_of_lt_of_le h.lt hb.size⟩
theorem arcCs_get (R f:Nat) (hf:f<5):∀ (L:List Arc) (k:Nat) (a:Arc),L[k]? = some a→(arcCs R L)[k*5+f]? = (arcC R a)[f]?
  | [],k,a,h=>by simp at h
  | b :: L,0,a,h=>by
    simp at h;subst h
    show (arcC R b ++ arcCs R L)[0*5+f]? = _
    rw [Nat.zero_mul,Nat.zero_add,List.getElem?_append_left (by simp [arcC];omega)]
  | b :: L,k+1,a,h=>by
    have ih:=arcCs_get R f hf L k a (by simpa using h)
    show (arcC R b ++ arcCs R L)[(k+1)*5+f]? = _
    rw [List.getElem?_append_right (by simp [arcC];omega)]
    have:(k+1)*5+f - (arcC R b).length=k*5+f:=by simp [arcC];omega
    rw [this];exact ih
theorem ArcRow.of_own {w:World} {base g n cap R:Nat} {L:List Arc} {l:Nat→Arc} (h:w.ownsRow base 164 5 (.slice (some ⟨g,0,none⟩) n cap) n (arcCs R L)) (hl:∀ k,k<n→L[k]? = some (l k)) (hg:g<w.heap.size):ArcRow w g n R l:=
  ⟨fun k hk=>(h.cellAt (k*5) (by omega)).trans (arcCs_get R 0 (by omega) L k _ (hl k hk)),
   fun k hk=>(h.cellAt (k*5+1) (by omega)).trans (arcCs_get R 1 (by omega) L k _ (hl k hk)),
   fun k hk=>(h.cellAt (k*5+2) (by omega)).trans (arcCs_get R 2 (by omega) L k _ (hl k hk)),
   fun k hk=>(h.cellAt (k*5+3) (by omega)).trans (arcCs_get R 3 (by omega) L k _ (hl k hk)),
   fun k hk=>(h.cellAt (k*5+4) (by omega)).trans (arcCs_get R 4 (by omega) L k _ (hl k hk)),hg⟩
theorem own_cap {w:World} {base e size n:Nat} {a:Option Addr} {c:Nat} {xs:List Value} (h:w.ownsRow base e size (.slice a n c) n xs):n≤c:=by
  rcases h.2 with ⟨h1,h2⟩ | ⟨g,cap,cur,h1,_,_,h2,_⟩
  · rw [h2];exact Nat.zero_le _
  · cases h1;exact h2
section
variable {d r:Nat→Nat→Int}
theorem mem_at {i j:Nat} {a:Arc} : a ∈ arcsAt d r i j↔(r i j<d i j∧a=fwdA d r i j)∨(0<r i j∧a=bwdA r i j):=by
  unfold arcsAt
  by_cases h1:r i j<d i j <;> by_cases h2:0<r i j <;> simp [h1,h2]
theorem mem_row {i:Nat} {a:Arc} : ∀ {J:Nat},a ∈ arcsRow d r i J↔∃ j,j<J∧a ∈ arcsAt d r i j
  | 0=>by simp [arcsRow]
  | J+1=>by
    simp only [arcsRow,List.mem_append]
    rw [mem_row]
    constructor
    · rintro (⟨j,hj,h⟩ | h)
      · exact⟨j,by omega,h⟩
      · exact⟨J,by omega,h⟩
    · rintro ⟨j,hj,h⟩
      by_cases e:j=J
      · subst e;exact .inr h
      · exact .inl ⟨j,by omega,h⟩
theorem mem_all {n:Nat} {a:Arc} : ∀ {N:Nat},a ∈ arcsAll d r n N↔∃ i j,i<N∧j<n∧a ∈ arcsAt d r i j
  | 0=>by simp [arcsAll]
  | N+1=>by
    simp only [arcsAll,List.mem_append]
    rw [mem_all,mem_row]
    constructor
    · rintro (⟨i,j,hi,hj,h⟩ | ⟨j,hj,h⟩)
      · exact⟨i,j,by omega,hj,h⟩
      · exact⟨N,j,by omega,hj,h⟩
    · rintro ⟨i,j,hi,hj,h⟩
      by_cases e:i=N
      · subst e;exact .inr ⟨j,hj,h⟩
      · exact .inl ⟨i,j,by omega,hj,h⟩
def arcF (L:List Arc) (k:Nat):Arc:=L.getD k ⟨0,0,0,0,0,0⟩
theorem arcF_get (L:List Arc) (k:Nat) (h:k<L.length):L[k]? = some (arcF L k):=by
  simp [arcF,List.getD,List.getElem?_eq_getElem h]
theorem arcF_mem (L:List Arc) (k:Nat) (h:k<L.length):arcF L k ∈ L:=List.mem_of_getElem? (arcF_get L k h)
theorem mem_arcF {L:List Arc} {a:Arc} (h:a ∈ L):∃ k,k<L.length∧arcF L k=a:=by
  obtain⟨k,hk,e⟩:=List.getElem_of_mem h
  refine⟨k,hk,?_⟩
  have:=arcF_get L k hk
  rw [List.getElem?_eq_getElem hk,e] at this
  exact (Option.some.inj this).symm
theorem arcs_ok {n:Nat} (h:∀ i j,i<n→j<n→0≤r i j∧r i j≤d i j) (hd:∀ i,i<n→d i i=0):ArcsOK n (arcsAll d r n n).length (arcF (arcsAll d r n n)) d r where
  sound:=fun k hk=>by
    obtain⟨i,j,hi,hj,hm⟩:=mem_all.1 (arcF_mem _ k hk)
    have hb:=h i j hi hj
    have hne:i≠j:=fun e=>by
      subst e
      rw [hd i hi] at hb
      rcases mem_at.1 hm with ⟨q,_⟩ | ⟨q,_⟩
      · rw [hd i hi] at q;omega
      · omega
    rcases mem_at.1 hm with ⟨q,e⟩ | ⟨q,e⟩
    · rw [e];exact⟨hi,hj,hne,.inl ⟨rfl,rfl,rfl,q,rfl⟩⟩
    · rw [e];exact⟨hi,hj,hne,.inr ⟨rfl,rfl,rfl,q,rfl⟩⟩
  fwd:=fun i j hi hj q=>by
    obtain⟨k,hk,e⟩:=mem_arcF (mem_all.2 ⟨i,j,hi,hj,mem_at.2 (.inl ⟨q,rfl⟩)⟩)
    exact⟨k,hk,by rw [e];rfl,by rw [e];rfl,by rw [e];rfl⟩
  bwd:=fun i j hi hj q=>by
    obtain⟨k,hk,e⟩:=mem_arcF (mem_all.2 ⟨i,j,hi,hj,mem_at.2 (.inr ⟨q,rfl⟩)⟩)
    exact⟨k,hk,by rw [e];rfl,by rw [e];rfl,by rw [e];rfl⟩
theorem arcs_cost {n:Nat} (k:Nat) (hk:k<(arcsAll d r n n).length):(arcF (arcsAll d r n n) k).c=1∨(arcF (arcsAll d r n n) k).c = -1:=by
  obtain⟨i,j,hi,hj,hm⟩:=mem_all.1 (arcF_mem _ k hk)
  rcases mem_at.1 hm with ⟨q,e⟩ | ⟨q,e⟩
  · rw [e];exact .inl rfl
  · rw [e];exact .inr rfl
theorem arcsRow_len2 {i:Nat} (hz:d i i=0) (hr:r i i=0):∀ j,i<j→(arcsRow d r i j).length≤2*(j - 1)
  | 0,h=>by omega
  | j+1,h=>by
    simp only [arcsRow,List.length_append]
    by_cases e:i=j
    · subst e
      have:=arcsRow_len d r i i
      have h2:arcsAt d r i i = []:=by unfold arcsAt;rw [hz,hr];simp
      rw [h2];simp;omega
    · have:=arcsRow_len2 hz hr j (by omega)
      have:=arcsAt_len d r i j
      omega
theorem arcs_len {n:Nat} (h:∀ i j,i<n→j<n→0≤r i j∧r i j≤d i j) (hd:∀ i,i<n→d i i=0):∀ i,i≤n→(arcsAll d r n i).length≤2*(n - 1)*i
  | 0,_=>by simp [arcsAll]
  | i+1,hi=>by
    have:=arcs_len h hd i (by omega)
    have hb:=h i i (by omega) (by omega)
    have hz:=hd i (by omega)
    have:=arcsRow_len2 (d:=d) (r:=r) (i:=i) hz (by omega) n (by omega)
    simp only [arcsAll,List.length_append,Nat.mul_succ];omega
end
end Go.Proofs.YtgmopcncbpdniaaGreat
