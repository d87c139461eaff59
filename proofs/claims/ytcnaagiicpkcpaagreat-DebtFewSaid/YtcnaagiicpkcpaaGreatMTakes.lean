/- Slices and matrices of integers that are read; the small functions of the reference that only look at integers. -/
import Derived.Test.YtcnaagiicpkcpaaGreatMBase
import Derived.Deep.LoopGhost
import Derived.Below
import Derived.ChangeSame
import Derived.ChangeSlices
import Derived.ProofKit
import Derived.OpenShut
import Derived.WideKeyArgs
import Derived.Deep.Matrix
import Derived.Deep.RegionHeld3
set_option linter.unusedVariables false
set_option linter.unusedSimpArgs false
namespace Go.Proofs.YtcnaagiicpkcpaaGreat
open Go.RowKit
theorem ints_s : Tryz.prog.underlying 22 = some (.slice (Tryz.prog.elem 22)) := by kernel_rfl
theorem ints_z (W : World) : (sizeOf (Tryz.prog.elem 22)).run Tryz.prog W = .ok 1 W := by kernel_rfl
theorem mat_s : Tryz.prog.underlying 24 = some (.slice (Tryz.prog.elem 24)) := by kernel_rfl
theorem mat_z (W : World) : (sizeOf (Tryz.prog.elem 24)).run Tryz.prog W = .ok 1 W := by kernel_rfl
/-- integers as cells -/
def ic (f : Nat → Int) (i : Nat) : Value := .int .i64 (f i)
/-- element i of a slice of integers -/
theorem ixI {w : World} {a : Option Addr} {b o c n : Nat} {g : Nat → Value} (h : IsSl w a b o c n g) (i d : Nat) (hi : i < n) (W : World) :
   (Instr.indexAt 22 (.slice a n d) (.int .i64 (i : Int))).run Tryz.prog W = .ok (.pointer (some ⟨b, o + i, none⟩)) W :=
  run_indexAt_opt 22 ints_s ints_z a b o n d (fun q => h.at_ q) .i64 i (by omega) (by omega) W
theorem ixM {w : World} {a : Option Addr} {b o c n : Nat} {g : Nat → Value} (h : IsSl w a b o c n g) (i d : Nat) (hi : i < n) (W : World) :
   (Instr.indexAt 24 (.slice a n d) (.int .i64 (i : Int))).run Tryz.prog W = .ok (.pointer (some ⟨b, o + i, none⟩)) W :=
  run_indexAt_opt 24 mat_s mat_z a b o n d (fun q => h.at_ q) .i64 i (by omega) (by omega) W
/-- a matrix of integers: row i has m i elements f i 0 .. -/
structure IsMat (w : World) (a : Option Addr) (b o c n : Nat) (ra : Nat → Option Addr) (rb ro rc m : Nat → Nat) (f : Nat → Nat → Int) : Prop where
  top : IsSl w a b o c n (fun i => .slice (ra i) (m i) (rc i))
  row : ∀ i, i < n → IsSl w (ra i) (rb i) (ro i) (rc i) (m i) (ic (f i))
def Ints (w : World) (v : Value) (n : Nat) (f : Nat → Int) : Prop := Sl w v n (ic f)
def Mat (w : World) (v : Value) (n : Nat) (m : Nat → Nat) (f : Nat → Nat → Int) : Prop :=
  ∃ (a : Option Addr) (b o c : Nat) (ra : Nat → Option Addr) (rb ro rc : Nat → Nat), v = .slice a n c ∧ IsMat w a b o c n ra rb ro rc m f
section
variable {w w' : World} {a : Option Addr} {b o c n : Nat} {g : Nat → Value} {ra : Nat → Option Addr} {rb ro rc m : Nat → Nat} {f : Nat → Nat → Int}
theorem IsSl.drawn (h : IsSl w a b o c n g) (hd : Drawn w w') : IsSl w' a b o c n g := h.mono (hd.below _) (Nat.le_refl _)
theorem IsMat.mono {B : Nat} (h : IsMat w a b o c n ra rb ro rc m f) (hb : Below B w w') (hB : w.heap.size ≤ B) : IsMat w' a b o c n ra rb ro rc m f :=
  ⟨h.top.mono hb hB, fun i hi => (h.row i hi).mono hb hB⟩
theorem IsMat.drawn (h : IsMat w a b o c n ra rb ro rc m f) (hd : Drawn w w') : IsMat w' a b o c n ra rb ro rc m f := h.mono (hd.below _) (Nat.le_refl _)
theorem Ints.mono {v : Value} {f : Nat → Int} {B : Nat} (h : Ints w v n f) (hb : Below B w w') (hB : w.heap.size ≤ B) : Ints w' v n f := Sl.mono h hb hB
theorem Mat.mono {v : Value} {B : Nat} (h : Mat w v n m f) (hb : Below B w w') (hB : w.heap.size ≤ B) : Mat w' v n m f := by
  obtain ⟨a, b, o, c, ra, rb, ro, rc, rfl, h⟩ := h
  exact ⟨a, b, o, c, ra, rb, ro, rc, rfl, h.mono hb hB⟩
theorem Ints.drawn {v : Value} {f : Nat → Int} (h : Ints w v n f) (hd : Drawn w w') : Ints w' v n f := h.mono (hd.below _) (Nat.le_refl _)
theorem Mat.drawn {v : Value} (h : Mat w v n m f) (hd : Drawn w w') : Mat w' v n m f := h.mono (hd.below _) (Nat.le_refl _)
end
theorem in_any (v lo hi : Int) (r : Bool) (hr : decide (lo ≤ v ∧ v ≤ hi) = r) (w : World) :
    Calls Tryz.prog 23 #[.int .i64 v, .int .i64 lo, .int .i64 hi] w fun e w' => e = .returned (.bool r) ∧ w = w' := by
  by_cases h1 : lo ≤ v
  · by_cases h2 : v ≤ hi
    · obtain rfl : r = true := by rw [← hr]; simp [h1, h2]
      have d1 : decide (lo ≤ v) = true := by simpa using h1
      have d2 : decide (v ≤ hi) = true := by simpa using h2
      clear hr
      go_enter Tryz.func23, Tryz.ntmps23
      go_wp2
      go_ret
      exact ⟨rfl, rfl⟩
    · obtain rfl : r = false := by rw [← hr]; simp; omega
      have d1 : decide (lo ≤ v) = true := by simpa using h1
      have d2 : decide (v ≤ hi) = false := by simpa using h2
      clear hr
      go_enter Tryz.func23, Tryz.ntmps23
      go_wp2
      go_ret
      exact ⟨rfl, rfl⟩
  · obtain rfl : r = false := by rw [← hr]; simp; omega
    have d1 : decide (lo ≤ v) = false := by simpa using h1
    clear hr
    go_enter Tryz.func23, Tryz.ntmps23
    go_wp2
    go_ret
    exact ⟨rfl, rfl⟩
/-- f 0 + .. + f (n - 1) -/
def sumF (f : Nat → Int) : Nat → Int
  | 0 => 0
  | n + 1 => sumF f n + f n
theorem sumF_bound (f : Nat → Int) (n : Nat) (B : Nat) (h : ∀ i, i < n → -(B : Int) ≤ f i ∧ f i ≤ B) : -(n * B : Nat) ≤ sumF f n ∧ sumF f n ≤ (n * B : Nat) := by
  induction n with
  | zero => simp [sumF]
  | succ n ih =>
    have h1 := ih (fun i hi => h i (by omega))
    have h2 := h n (by omega)
    rw [Nat.succ_mul]
    simp only [sumF]
    omega
theorem sumF_congr {f g : Nat → Int} {n : Nat} (h : ∀ i, i < n → f i = g i) : sumF f n = sumF g n := by
  induction n with
  | zero => rfl
  | succ n ih => simp only [sumF]; rw [ih (fun i hi => h i (by omega)), h n (by omega)]
end Go.Proofs.YtcnaagiicpkcpaaGreat

/- The arguments of the laws, opened: slices and matrices of integers; the last step of a row. -/
namespace Go.Proofs.YtcnaagiicpkcpaaGreat
open Go.ChangeShapes Go.WideShapes Go.ChangeAt Go.RowKit Go.Deep
section
variable {H : Type} {enc : TypeId × Value → H} {P : Program}
theorem post_of_below {f : Func} {s : ChangeSpec} {apart fresh handsOn again : Bool} {W W' : World} {args : Array Value} {v : Value} {ds gs : List (DataW H)} {before pa pv : List MemPlace}
    (hW : DataW.Whole enc P f.params.toList s.vars apart W args.toList ds gs before)
    (hres : ∀ (b : Nat) (sp : Nat → Bool) (hd : Bool), DataW.TrodAll enc P W' b sp hd f.resultTypes.toList (v.resultList f.resultTypes.size) (s.fn H (ds ++ gs)).results [])
    (hargs : ∀ sp : Nat → Bool, (∀ p ∈ before, sp p.block = true) → DataW.TrodAll enc P W' 0 sp true f.params.toList args.toList (s.fn H (ds ++ gs)).args pa)
    (hvars : ∀ sp : Nat → Bool, (∀ p ∈ before, sp p.block = true) → DataW.TrodVars enc P W' sp s.vars (s.fn H (ds ++ gs)).vars pv)
    (hps : before = pa ++ pv) (hb : Below W.heap.size W W')
    (hok : ∀ (j : Nat) (t : TypeId) (r : Value), f.resultTypes[j]? = some t → (v.resultList f.resultTypes.size)[j]? = some r → Value.okWide P W' .any 0 t r) :
    s.post enc P f apart fresh handsOn again W args v W' := by
  have hlt : ∀ p ∈ before, p.block < W.heap.size := fun p hp => hW.lt p hp
  have hold : ∀ p ∈ before, (fun b => decide (b < W.heap.size)) p.block = true := fun p hp => by simpa using hlt p hp
  refine ⟨ds, gs, before, [], pa, pv, hW, hres _ _ _, hargs _ hold, hvars _ hold, World.keptBut_mono (fun p hp => ⟨hp, ?_⟩) (hb.frame (· ∈ before)), fun _ => ?_⟩
  · rw [hps, List.mem_append] at hp
    exact Or.inr hp
  · obtain ⟨_, _, _, _, _, hz, hn⟩ := hW
    refine ⟨hok, _, _, ([] ++ pa) ++ pv, ⟨[] ++ pa, pv, trodAll_append (hargs _ (fun _ _ => rfl)) (hres _ _ _), hvars _ (fun _ _ => rfl), rfl, ?_, ?_⟩, ?_⟩
    · intro b off hp
      have hin : MemPlace.cell b off ∈ before := by rw [hps]; simpa using hp
      rw [hb.frozen (hlt _ hin)]
      exact hz b off hin
    · intro ha
      have := hn ha
      rw [hps] at this
      simpa using this
    · intro p hp _
      rw [hps]
      simpa using hp
end
theorem ownGodebug : ownKnob Tryz.prog.godebug = none := by kernel_rfl
theorem laidOutP : laidOutB Tryz.prog = true := by kernel_rfl
section
variable {H : Type} {enc : TypeId × Value → H}
theorem plain_addr {w : World} {a : Addr} {u : Value} (h : w.cell? (a.add 0) = some u) : a = ⟨a.block, a.off, none⟩ := by
  obtain ⟨b, o, s⟩ := a
  have : s = none := by simpa [Addr.add] using World.cell?_spot h
  subst this; rfl
theorem addr_add (b o j : Nat) : (⟨b, o, none⟩ : Addr).add j = ⟨b, o + j, none⟩ := by unfold Addr.add; split <;> simp_all
theorem sl_of_cells {w : World} {a : Addr} {n c : Nat} {g : Nat → Value} (hc : n ≤ c) (h : ∀ i, i < n → w.cell? (a.add i) = some (g i)) : ∃ b o, IsSl w (some a) b o c n g := by
  by_cases h0 : 0 < n
  · have e := plain_addr (h 0 h0)
    have h2 : ∀ i, i < n → w.cell? ⟨a.block, a.off + i, none⟩ = some (g i) := fun i hi => by
      have h1 := h i hi
      rw [e, addr_add] at h1; exact h1
    exact ⟨a.block, a.off, hc, fun _ => by rw [← e], fun _ => World.block_lt_of_cell? w ⟨a.block, a.off + 0, none⟩ (h2 0 h0), h2, fun e => by cases e⟩
  · exact ⟨0, 0, hc, fun q => absurd q h0, fun q => absurd q h0, fun i hi => by omega, fun e => by cases e⟩
theorem sl_none (w : World) (g : Nat → Value) : IsSl w none 0 0 0 0 g := ⟨Nat.le_refl _, fun q => by omega, fun q => by omega, fun i hi => by omega, fun _ => rfl⟩
end
end Go.Proofs.YtcnaagiicpkcpaaGreat

/- The argument []int8 of a law, opened. -/
namespace Go.Proofs.YtcnaagiicpkcpaaGreat
open Go.ChangeShapes Go.WideShapes Go.ChangeAt Go.RowKit Go.Deep
theorem wf_i8 (z : Int) (h : (Lit.int .i8 z).wf = true) : -128 ≤ z ∧ z ≤ 127 := by
  simpa [Lit.wf, IntKind.min, IntKind.max, IntKind.signed, IntKind.bits] using h
set_option maxRecDepth 100000 in
theorem i8s_of_trod {H : Type} {enc : TypeId × Value → H} {W : World} {base : Nat} {v : Value} {d : DataW H} {ps : List MemPlace} (hv : Value.okWide Tryz.prog W .any base 36 v) (h : DataW.Trod enc Tryz.prog W 0 (fun _ => true) true 36 v d ps) :
    ∃ (n : Nat) (g : Nat → Int), Sl W v n (fun i => .int .i8 (g i)) ∧ (∀ i, i < n → -128 ≤ g i ∧ g i ≤ 127) ∧ n ≤ maxLen := by
  obtain ⟨a0, len, cap, rfl⟩ := okWide_slice Tryz.underlying36 hv
  obtain ⟨fuel, hf⟩ := h
  rcases open_ints Tryz.underlying36 Tryz.underlying37 (by kernel_rfl) hf with ⟨hcs, hx⟩ | ⟨a, len', cap', zs, hcs, _, hl, hm, hz, hx, hcell, hwz⟩
  · simp [Value.cells] at hcs
    obtain ⟨rfl, rfl, rfl⟩ := hcs
    exact ⟨0, fun _ => 0, ⟨_, _, _, _, rfl, sl_none W _⟩, fun i hi => absurd hi (Nat.not_lt_zero i), Nat.zero_le _⟩
  · simp [Value.cells] at hcs
    obtain ⟨rfl, rfl, rfl⟩ := hcs
    simp only [if_true] at hz
    have hb : ∀ i, i < len → -128 ≤ zs.getD i 0 ∧ zs.getD i 0 ≤ 127 := fun i hi => wf_i8 _ (hwz _ (by
      have : i < zs.length := by omega
      rw [List.getD_eq_getElem?_getD, List.getElem?_eq_getElem this]
      exact List.getElem_mem this))
    obtain ⟨b, o, hs⟩ := sl_of_cells (w := W) (a := a) (g := fun i => .int .i8 (zs.getD i 0)) hl (fun i hi => hcell i (by omega))
    exact ⟨len, fun i => zs.getD i 0, ⟨_, _, _, _, rfl, hs⟩, hb, Nat.le_trans hl hm⟩
end Go.Proofs.YtcnaagiicpkcpaaGreat

/- Several operations of a drawn region taken one after the other: their numbers in a list. -/
namespace Go.Proofs.YtcnaagiicpkcpaaGreat
open Go Go.RowKit
/-- number i may be taken first -/
def takeB (ops : Array Oper) (L : Array Bool) (i : Nat) : Bool := Region.noSelect ops && (Region.free .any ops L i && (Region.ready .any ops L).contains i)
section
variable {P : Program} {ops : Array Oper} {Q : Exit → Act → World → Prop} {S : World → Prop}
theorem takeB_spec {L : Array Bool} {i : Nat} (h : takeB ops L i = true) : Region.noSelect ops = true ∧ Region.free .any ops L i = true ∧ (Region.ready .any ops L).contains i = true := by
  unfold takeB at h
  simp only [Bool.and_eq_true] at h
  exact h
/-- the operations of the list are taken next -/
def wpTk (P : Program) (ops : Array Oper) (Q : Exit → Act → World → Prop) (S : World → Prop) (is : List Nat) (f : Nat) (L : Array Bool) (a : Act) (w : World) : Prop := wpAnyH P .any ops Q S f L a w
theorem wtk_begin (is : List Nat) {f : Nat} {L : Array Bool} {a : Act} {w : World} (h : wpTk P ops Q S is f L a w) : wpAnyH P .any ops Q S f L a w := h
theorem wtk_end {f : Nat} {L : Array Bool} {a : Act} {w : World} (h : wpAnyH P .any ops Q S f L a w) : wpTk P ops Q S [] f L a w := h
theorem wtk {i : Nat} {is : List Nat} {oi : Oper} {v : Value} {f : Nat} {L : Array Bool} {a : Act} {w : World} (hi : ops[i]? = some oi) (hb : takeB ops L i = true)
    (hQ : ∀ c a w, Q (.panic c) (a.put oi.dst v) w → Q (.panic c) a w) (hw : Region.wanted oi (yielded ops a.tmps) = true) (hv : ∀ w, S w → (execOp a.eval oi).run P w = .ok (.value v) w) (hS : S w)
    (h : wpTk P ops Q S is f (L.setIfInBounds i true) (a.put oi.dst v) w) : wpTk P ops Q S (i :: is) (f + 1) L a w :=
  wpAnyH_take hi (takeB_spec hb).1 (takeB_spec hb).2.1 (takeB_spec hb).2.2 hQ (.inl ⟨hw, hv⟩) hS h
/-- an operation whose guard says no -/
theorem wtk_un {i : Nat} {is : List Nat} {oi : Oper} {f : Nat} {L : Array Bool} {a : Act} {w : World} (hi : ops[i]? = some oi) (hb : takeB ops L i = true)
    (hQ : ∀ c a w, Q (.panic c) (a.put oi.dst undef) w → Q (.panic c) a w) (hw : Region.wanted oi (yielded ops a.tmps) = false) (hS : S w)
    (h : wpTk P ops Q S is f (L.setIfInBounds i true) (a.put oi.dst undef) w) : wpTk P ops Q S (i :: is) (f + 1) L a w :=
  wpAnyH_take hi (takeB_spec hb).1 (takeB_spec hb).2.1 (takeB_spec hb).2.2 hQ (.inr ⟨hw, rfl⟩) hS h
end
end Go.Proofs.YtcnaagiicpkcpaaGreat
