/- Slices and matrices of integers that are read; the small functions of the reference that only look at integers. -/
import Derived.Test.YtgmopcncbpdniaaQBase
import Derived.Deep.LoopGhost
set_option linter.unusedVariables false
set_option linter.unusedSimpArgs false
namespace Go.Proofs.Ytgmopcncbpdniaa
open Go.RowKit

theorem ints_s : Try.prog.underlying 23 = some (.slice (Try.prog.elem 23)) := by kernel_rfl
theorem ints_z (W : World) : (sizeOf (Try.prog.elem 23)).run Try.prog W = .ok 1 W := by kernel_rfl
theorem mat_s : Try.prog.underlying 24 = some (.slice (Try.prog.elem 24)) := by kernel_rfl
theorem mat_z (W : World) : (sizeOf (Try.prog.elem 24)).run Try.prog W = .ok 1 W := by kernel_rfl

/-- integers as cells -/
def ic (f : Nat → Int) (i : Nat) : Value := .int .i64 (f i)

/-- element i of a slice of integers -/
theorem ixI {w : World} {a : Option Addr} {b o c n : Nat} {g : Nat → Value} (h : IsSl w a b o c n g) (i d : Nat) (hi : i < n) (W : World) :
   (Instr.indexAt 23 (.slice a n d) (.int .i64 (i : Int))).run Try.prog W = .ok (.pointer (some ⟨b, o + i, none⟩)) W :=
  run_indexAt_opt 23 ints_s ints_z a b o n d (fun q => h.at_ q) .i64 i (by omega) (by omega) W
theorem ixM {w : World} {a : Option Addr} {b o c n : Nat} {g : Nat → Value} (h : IsSl w a b o c n g) (i d : Nat) (hi : i < n) (W : World) :
   (Instr.indexAt 24 (.slice a n d) (.int .i64 (i : Int))).run Try.prog W = .ok (.pointer (some ⟨b, o + i, none⟩)) W :=
  run_indexAt_opt 24 mat_s mat_z a b o n d (fun q => h.at_ q) .i64 i (by omega) (by omega) W

/-- a matrix of integers: row i has m i elements f i 0 .. -/
structure IsMat (w : World) (a : Option Addr) (b o c n : Nat) (ra : Nat → Option Addr) (rb ro rc m : Nat → Nat) (f : Nat → Nat → Int) : Prop where
  top : IsSl w a b o c n (fun i => .slice (ra i) (m i) (rc i))
  row : ∀ i, i < n → IsSl w (ra i) (rb i) (ro i) (rc i) (m i) (ic (f i))

def Ints (w : World) (v : Value) (n : Nat) (f : Nat → Int) : Prop := Sl w v n (ic f)
def Mat (w : World) (v : Value) (n : Nat) (m : Nat → Nat) (f : Nat → Nat → Int) : Prop :=
  ∃ (a : Option Addr) (b o c : Nat) (ra : Nat → Option Addr) (rb ro rc : Nat → Nat), v = .slice a n c ∧ IsMat w a b o c n ra rb ro rc m f

section
variable {w w' : World} {a : Option Addr} {b o c n : Nat} {g : Nat → Value} {ra : Nat → Option Addr} {rb ro rc m : Nat → Nat} {f : Nat → Nat → Int}
theorem IsSl.drawn (h : IsSl w a b o c n g) (hd : Drawn w w') : IsSl w' a b o c n g := h.mono (hd.below _) (Nat.le_refl _)
theorem IsMat.mono {B : Nat} (h : IsMat w a b o c n ra rb ro rc m f) (hb : Below B w w') (hB : w.heap.size ≤ B) : IsMat w' a b o c n ra rb ro rc m f :=
  ⟨h.top.mono hb hB, fun i hi => (h.row i hi).mono hb hB⟩
theorem IsMat.drawn (h : IsMat w a b o c n ra rb ro rc m f) (hd : Drawn w w') : IsMat w' a b o c n ra rb ro rc m f := h.mono (hd.below _) (Nat.le_refl _)
theorem Ints.mono {v : Value} {f : Nat → Int} {B : Nat} (h : Ints w v n f) (hb : Below B w w') (hB : w.heap.size ≤ B) : Ints w' v n f := Sl.mono h hb hB
theorem Mat.mono {v : Value} {B : Nat} (h : Mat w v n m f) (hb : Below B w w') (hB : w.heap.size ≤ B) : Mat w' v n m f := by
  obtain ⟨a, b, o, c, ra, rb, ro, rc, rfl, h⟩ := h
  exact ⟨a, b, o, c, ra, rb, ro, rc, rfl, h.mono hb hB⟩
theorem Ints.drawn {v : Value} {f : Nat → Int} (h : Ints w v n f) (hd : Drawn w w') : Ints w' v n f := h.mono (hd.below _) (Nat.le_refl _)
theorem Mat.drawn {v : Value} (h : Mat w v n m f) (hd : Drawn w w') : Mat w' v n m f := h.mono (hd.below _) (Nat.le_refl _)
end

theorem in_any (v lo hi : Int) (r : Bool) (hr : decide (lo ≤ v ∧ v ≤ hi) = r) (w : World) :
    Calls Try.prog 29 #[.int .i64 v, .int .i64 lo, .int .i64 hi] w fun e w' => e = .returned (.bool r) ∧ w = w' := by
  by_cases h1 : lo ≤ v
  · by_cases h2 : v ≤ hi
    · obtain rfl : r = true := by rw [← hr]; simp [h1, h2]
      have d1 : decide (lo ≤ v) = true := by simpa using h1
      have d2 : decide (v ≤ hi) = true := by simpa using h2
      clear hr
      go_enter Try.func29, Try.ntmps29
      go_wp2
      go_ret
      exact ⟨rfl, rfl⟩
    · obtain rfl : r = false := by rw [← hr]; simp; omega
      have d1 : decide (lo ≤ v) = true := by simpa using h1
      have d2 : decide (v ≤ hi) = false := by simpa using h2
      clear hr
      go_enter Try.func29, Try.ntmps29
      go_wp2
      go_ret
      exact ⟨rfl, rfl⟩
  · obtain rfl : r = false := by rw [← hr]; simp; omega
    have d1 : decide (lo ≤ v) = false := by simpa using h1
    clear hr
    go_enter Try.func29, Try.ntmps29
    go_wp2
    go_ret
    exact ⟨rfl, rfl⟩

/-- f 0 + .. + f (n - 1) -/
def sumF (f : Nat → Int) : Nat → Int
  | 0 => 0
  | n + 1 => sumF f n + f n
theorem sumF_bound (f : Nat → Int) (n : Nat) (B : Nat) (h : ∀ i, i < n → -(B : Int) ≤ f i ∧ f i ≤ B) : -(n * B : Nat) ≤ sumF f n ∧ sumF f n ≤ (n * B : Nat) := by
  induction n with
  | zero => simp [sumF]
  | succ n ih =>
    have h1 := ih (fun i hi => h i (by omega))
    have h2 := h n (by omega)
    rw [Nat.succ_mul]
    simp only [sumF]
    omega
theorem sumF_congr {f g : Nat → Int} {n : Nat} (h : ∀ i, i < n → f i = g i) : sumF f n = sumF g n := by
  induction n with
  | zero => rfl
  | succ n ih => simp only [sumF]; rw [ih (fun i hi => h i (by omega)), h n (by omega)]

theorem total_any (v : Value) (n : Nat) (f : Nat → Int) (w : World) (hv : Ints w v n f) (hn : n ≤ 1048576) (hf : ∀ i, i < n → -(1099511627776 : Int) ≤ f i ∧ f i ≤ 1099511627776) :
    Calls Try.prog 23 #[v] w fun e w' => e = .returned (.int .i64 (sumF f n)) ∧ Drawn w w' := by
  obtain ⟨a, b, o, c, rfl, hs⟩ := hv
  have HF := Lib.hid hf
  clear hf
  go_enter Try.func23, Try.ntmps23
  go_wp2
  go_loopw [3, 4] (fun s i wr => ∃ k : Nat, k ≤ n ∧ i = .int .i64 (k : Nat) ∧ s = .int .i64 (sumF f k) ∧ Hid (Drawn w wr)) (fun _ i _ => n - (intOf i).toNat)
  case atStart => exact ⟨0, by omega, rfl, rfl, Lib.hid (Drawn.refl _)⟩
  case round =>
    obtain ⟨k, hk, rfl, rfl, hd⟩ := hrel
    by_cases h : k < n
    · have hix := fun W => ixI hs k c h W
      have hc := (hs.drawn hd.out).cell k h
      simp only [ic] at hc
      have b1 := HF.out k h
      have b2 := sumF_bound f k 1099511627776 (fun i hi => HF.out i (by omega))
      have b3 : ((k * 1099511627776 : Nat) : Int) ≤ 1152921504606846976 := by omega
      have b4 : -(1152921504606846976 : Int) ≤ sumF f k := by omega
      have b5 : sumF f k ≤ 1152921504606846976 := by omega
      clear b2 b3
      go_wp2
      go_roundw
      case rel => exact ⟨k + 1, by omega, by go_num, rfl, hd⟩
      case measure => simp [intOf]; omega
    · obtain rfl : k = n := by omega
      go_wp2
      go_ret
      exact ⟨rfl, hd.out⟩

end Go.Proofs.Ytgmopcncbpdniaa
