/- What the walk of made keeps: the cash and the rows gathered so far, each in memory of its own. -/
import Derived.Test.YtgmopcncbpdniaaQRws
set_option linter.unusedVariables false
set_option linter.unusedSimpArgs false
namespace Go.Proofs.Ytgmopcncbpdniaa
open Go.RowKit

section
variable {B : Nat} {w w' : World} {q : Nat} {v : Value} {ra : Nat → Option Addr} {rc m : Nat → Nat} {f : Nat → Nat → Int}
theorem RowsIn.kept (G : RowsIn B w q v ra rc m f) {row : Option Nat} (hg : w.grownBy w' row) (h1 : ∀ g, v.ownBlock = some g → row ≠ some g) (h2 : ∀ i g, i < q → blk (ra i) = some g → row ≠ some g) : RowsIn B w' q v ra rc m f := by
  refine ⟨G.own.kept hg ?_, fun i hi => (G.row i hi).kept hg ?_, G.far, G.apart⟩
  · rcases h : v.ownBlock with _ | g
    · exact .inl rfl
    · right; intro e; exact h1 g h e.symm
  · rw [ownBlock_blk]
    rcases h : blk (ra i) with _ | g
    · exact .inl rfl
    · right; intro e; exact h2 i g hi h e.symm
theorem RowsIn.alloc (G : RowsIn B w q v ra rc m f) (o : Obj) : RowsIn B (w.alloc o) q v ra rc m f :=
  ⟨G.own.alloc o, fun i hi => (G.row i hi).alloc o, G.far, G.apart⟩
theorem RowsIn.below (G : RowsIn B w q v ra rc m f) (hb : Below w.heap.size w w') : RowsIn B w' q v ra rc m f :=
  ⟨own_kept G.own hb, fun i hi => own_kept (G.row i hi) hb, G.far, G.apart⟩
theorem RowsIn.lt_row (G : RowsIn B w q v ra rc m f) {i g : Nat} (hi : i < q) (h : blk (ra i) = some g) : B ≤ g ∧ g < w.heap.size := (G.row i hi).lt g (by rw [ownBlock_blk]; exact h)
theorem RowsIn.push2 (G : RowsIn B w q v ra rc m f) {a : Option Addr} {c : Nat} {w5 : World} {v' : Value} (hs : w.ownsRow B 3 1 (.slice a (m q) c) (m q) (ics (f q) (m q)))
    (hf1 : ∀ g, blk a = some g → v.ownBlock ≠ some g) (hf2 : ∀ i g, i < q → blk (ra i) = some g → blk a ≠ some g) (ob : Obj) (hgrow : (w.alloc ob).grownBy w5 v.ownBlock)
    (hbk : v'.ownBlock = v.ownBlock ∨ v'.ownBlock = some (w.alloc ob).heap.size) (hown : w5.ownsRow B 23 1 v' (q + 1) (rowCells ra m rc q ++ [.slice a (m q) c])) :
    RowsIn B w5 (q + 1) v' (setN ra q a) (setN rc q c) m f := by
  have hlt : ∀ i g, i < q → blk (ra i) = some g → g < w.heap.size := fun i g hi e => (G.lt_row hi e).2
  have hnew : ∀ g, blk a = some g → g < w.heap.size := fun g e => (hs.lt g (by rw [ownBlock_blk]; exact e)).2
  have hal : (w.alloc ob).heap.size = w.heap.size + 1 := by simp
  have hv' : ∀ g, v'.ownBlock = some g → v.ownBlock = some g ∨ g = w.heap.size + 1 := fun g e => by
    rcases hbk with h | h
    · left; rw [← h]; exact e
    · right; rw [h, hal] at e; exact (Option.some.inj e).symm
  refine ⟨by rw [← rowCells_succ]; exact hown, fun i hi => ?_, fun i g hi e e2 => ?_, fun i j g hij hj e e2 => ?_⟩
  · by_cases h : i = q
    · subst h
      rw [setN_self, setN_self]
      refine (hs.alloc ob).kept hgrow ?_
      rw [ownBlock_blk]
      rcases hbb : blk a with _ | g
      · exact .inl rfl
      · right; intro e; exact hf1 g hbb e.symm
    · rw [setN_ne _ _ h, setN_ne _ _ h]
      have hi' : i < q := by omega
      refine ((G.row i hi').alloc ob).kept hgrow ?_
      rw [ownBlock_blk]
      rcases hbb : blk (ra i) with _ | g
      · exact .inl rfl
      · right; intro e; exact G.far i g hi' hbb e.symm
  · by_cases h : i = q
    · subst h
      rw [setN_self] at e
      have h1 := hnew g e
      rcases hv' g e2 with h2 | h2
      · exact hf1 g e h2
      · omega
    · rw [setN_ne _ _ h] at e
      have hi' : i < q := by omega
      have h1 := hlt i g hi' e
      rcases hv' g e2 with h2 | h2
      · exact G.far i g hi' e h2
      · omega
  · have hi : i < q := by omega
    rw [setN_ne _ _ (by omega)] at e
    by_cases h : j = q
    · subst h
      rw [setN_self] at e2
      exact hf2 i g hi e e2
    · rw [setN_ne _ _ h] at e2
      exact G.apart i j g hij (by omega) e e2
end

/-- the cash and the rows gathered so far -/
structure MadeS (B : Nat) (w : World) (q k : Nat) (vc vd : Value) (ra : Nat → Option Addr) (rc : Nat → Nat) (cf : Nat → Int) (df : Nat → Nat → Int) : Prop where
  cash : w.ownsRow B 3 1 vc q (ics cf q)
  rows : RowsIn B w q vd ra rc (fun _ => k) df
  cd : ∀ g, vc.ownBlock = some g → vd.ownBlock ≠ some g
  cr : ∀ i g, i < q → blk (ra i) = some g → vc.ownBlock ≠ some g

theorem MadeS.push {B : Nat} {w wI wJ wK : World} {q k : Nat} {vc vd vc' vd' : Value} {ra : Nat → Option Addr} {rc : Nat → Nat} {cf : Nat → Int} {df : Nat → Nat → Int} {a : Option Addr} {c : Nat} (G : MadeS B w q k vc vd ra rc cf df) (hB : B ≤ w.heap.size)
    (hb : Below w.heap.size w wI) (hs : wI.ownsRow w.heap.size 3 1 (.slice a k c) k (ics (df q) k)) (o1 o2 : Obj)
    (hg1 : (wI.alloc o1).grownBy wJ vc.ownBlock) (hbk1 : vc'.ownBlock = vc.ownBlock ∨ vc'.ownBlock = some (wI.alloc o1).heap.size) (ho1 : wJ.ownsRow B 3 1 vc' (q + 1) (ics cf (q + 1)))
    (hg2 : (wJ.alloc o2).grownBy wK vd.ownBlock) (hbk2 : vd'.ownBlock = vd.ownBlock ∨ vd'.ownBlock = some (wJ.alloc o2).heap.size) (ho2 : wK.ownsRow B 23 1 vd' (q + 1) (rowCells ra (fun _ => k) rc q ++ [.slice a k c])) :
    MadeS B wK (q + 1) k vc' vd' (setN ra q a) (setN rc q c) cf df := by
  have hlt : ∀ i g, i < q → blk (ra i) = some g → g < w.heap.size := fun i g hi e => (G.rows.lt_row hi e).2
  have hnew : ∀ g, blk a = some g → w.heap.size ≤ g ∧ g < wI.heap.size := fun g e => hs.lt g (by rw [ownBlock_blk]; exact e)
  have hvc : ∀ g, vc.ownBlock = some g → g < w.heap.size := fun g e => (G.cash.lt g e).2
  have hvd : ∀ g, vd.ownBlock = some g → g < w.heap.size := fun g e => (G.rows.own.lt g e).2
  have hal1 : (wI.alloc o1).heap.size = wI.heap.size + 1 := by simp
  have hal2 : (wJ.alloc o2).heap.size = wJ.heap.size + 1 := by simp
  have z1 := hb.size
  have z2 := hg1.size
  rw [hal1] at z2
  have hvc' : ∀ g, vc'.ownBlock = some g → vc.ownBlock = some g ∨ g = wI.heap.size + 1 := fun g e => by
    rcases hbk1 with h | h
    · left; rw [← h]; exact e
    · right; rw [h, hal1] at e; exact (Option.some.inj e).symm
  have hvc2 : ∀ g, vc'.ownBlock = some g → g < wJ.heap.size := fun g e => (ho1.lt g e).2
  have hvd' : ∀ g, vd'.ownBlock = some g → vd.ownBlock = some g ∨ g = wJ.heap.size + 1 := fun g e => by
    rcases hbk2 with h | h
    · left; rw [← h]; exact e
    · right; rw [h, hal2] at e; exact (Option.some.inj e).symm
  have hR := ((G.rows.below hb).alloc o1).kept hg1 (fun g e e2 => G.cd g e2 e) (fun i g hi e e2 => G.cr i g hi e e2)
  have hS : wJ.ownsRow B 3 1 (.slice a k c) k (ics (df q) k) := ((own_base hs hB).alloc o1).kept hg1 (by
    rw [ownBlock_blk]
    rcases hbb : blk a with _ | g
    · exact .inl rfl
    · right; intro e; have := hvc g e.symm; have := hnew g hbb; omega)
  have hR2 := hR.push2 (m := fun _ => k) hS (fun g e e2 => by have := hvd g e2; have := hnew g e; omega) (fun i g hi e e2 => by have := hlt i g hi e; have := hnew g e2; omega) o2 hg2 hbk2 ho2
  refine ⟨(ho1.alloc o2).kept hg2 ?_, hR2, fun g e e2 => ?_, fun i g hi e e2 => ?_⟩
  · rcases hbb : vc'.ownBlock with _ | g
    · exact .inl rfl
    · right; intro e
      rcases hvc' g hbb with h | h
      · exact G.cd g h e.symm
      · have := hvd g e.symm; omega
  · rcases hvd' g e2 with h | h
    · rcases hvc' g e with h2 | h2
      · exact G.cd g h2 h
      · have := hvd g h; omega
    · have := hvc2 g e; omega
  · by_cases h : i = q
    · subst h
      rw [setN_self] at e
      have h1 := hnew g e
      rcases hvc' g e2 with h2 | h2
      · have := hvc g h2; omega
      · omega
    · rw [setN_ne _ _ h] at e
      have h1 := hlt i g (by omega) e
      rcases hvc' g e2 with h2 | h2
      · exact G.cr i g (by omega) e h2
      · omega

theorem MadeS.mid {B : Nat} {w wI wJ : World} {q k : Nat} {vc vd : Value} {ra : Nat → Option Addr} {rc : Nat → Nat} {cf : Nat → Int} {df : Nat → Nat → Int} (G : MadeS B w q k vc vd ra rc cf df)
    (hb : Below w.heap.size w wI) (o1 : Obj) (hg1 : (wI.alloc o1).grownBy wJ vc.ownBlock) : RowsIn B wJ q vd ra rc (fun _ => k) df :=
  ((G.rows.below hb).alloc o1).kept hg1 (fun g e e2 => G.cd g e2 e) (fun i g hi e e2 => G.cr i g hi e e2)

/-- short numbers that are read -/
def U16s (w : World) (v : Value) (n : Nat) (g : Nat → Nat) : Prop := Sl w v n (fun i => .int .u16 (g i : Nat)) ∧ ∀ i, i < n → g i < 65536
theorem u16_s : Try.prog.underlying 22 = some (.slice (Try.prog.elem 22)) := by kernel_rfl
theorem u16_z (W : World) : (sizeOf (Try.prog.elem 22)).run Try.prog W = .ok 1 W := by kernel_rfl
theorem ixH {w : World} {a : Option Addr} {b o c n : Nat} {g : Nat → Value} (h : IsSl w a b o c n g) (i d : Nat) (hi : i < n) (W : World) :
   (Instr.indexAt 22 (.slice a n d) (.int .i64 (i : Int))).run Try.prog W = .ok (.pointer (some ⟨b, o + i, none⟩)) W :=
  run_indexAt_opt 22 u16_s u16_z a b o n d (fun q => h.at_ q) .i64 i (by omega) (by omega) W

/-- what made makes of the numbers -/
def cashM (lx : Nat) (fx : Nat → Nat) (i : Nat) : Int := if i < lx then ((fx i % 1001 : Nat) : Int) else 0
def debtM (k ly : Nat) (fy : Nat → Nat) (i j : Nat) : Int := if i * k + j < ly ∧ i ≠ j ∧ 0 < fy (i * k + j) % 3 then ((fy (i * k + j) / 3 % 1001 : Nat) : Int) else 0
theorem cashM_range (lx : Nat) (fx : Nat → Nat) (i : Nat) : 0 ≤ cashM lx fx i ∧ cashM lx fx i ≤ 1000 := by unfold cashM; split <;> omega
theorem debtM_range (k ly : Nat) (fy : Nat → Nat) (i j : Nat) : 0 ≤ debtM k ly fy i j ∧ debtM k ly fy i j ≤ 1000 := by unfold debtM; split <;> omega
theorem debtM_debts (k ly : Nat) (fy : Nat → Nat) (h1 : 1 ≤ k) (h8 : k ≤ 8) : Debts k (fun _ => k) (debtM k ly fy) :=
  ⟨h1, h8, fun i _ => ⟨rfl, by unfold debtM; rw [if_neg (fun h => h.2.1 rfl)], fun j _ => debtM_range k ly fy i j⟩⟩

end Go.Proofs.Ytgmopcncbpdniaa
