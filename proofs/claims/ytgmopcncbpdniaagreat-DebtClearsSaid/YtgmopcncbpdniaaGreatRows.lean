/-
  No cell of these rows narrows 'for every input' (looked for: loops, veiled, ifaces, maps, wideKeys, modest, calm, conditions, laid).
  DERIVED. THE GIVEN ROWS OF THIS SEAT. 7 by the template 'for every input the law returns true; each argument reads behind the call as it read before'; 0 by the template 'total and deterministic' (their statements: YtgmopcncbpdniaaGreatTotals.lean).
  GIVEN WITH THE SEED: the statements are not yours to turn. If you find one false, say at which input.
  Laid BY PROGRAM, IN A SANDBOX (cutbox-rows.mjs): the forced cells as the released guide's own fill.sh prints them over the translation c98eb91852791bac… (all of the seat's roots in one cut). By AI agents, Wed Nov 11 2026. No macro, syntax, notation, axiom, sorry.
-/
import Derived.Test.YtgmopcncbpdniaaGreatChecked
import GoSem.Claim
import GoSem.ClaimJoined
import GoSem.ClaimMapViews
import Derived.JoinedTies
import Derived.KernelRfl
namespace Go.Proofs.YtgmopcncbpdniaaGreat
/- THE CELL 'sum', in the pinned program and in every row, IS THE sha256 OF THE DUMP (.gsa) THAT YtgmopcncbpdniaaGreatProg.lean LOADS. Nothing in Lean hashes anything: it is a label: what it is worth is what the hold of that sum in a sandbox is worth. -/
noncomputable def Tryz.pinned : Pinned := { name := "ytgmopcncbpdniaagreat", sum := "c98eb91852791bacd82958c0d5025ccc8813975868d82d041bc94ada6c940133", checked := Tryz.checked }
namespace Rows
def none {H : Type} : Left H := { results := [], args := [] }

/-- 'pommellaw01.DebtMore': WHATEVER THE INPUT: true; the input reads as it did. -/
def debtMoreSpec : ChangeSpec := { name := "debtMore", fn := fun _ => fun
  | [d1, d2, d3] => { results := [.lit (.bool true)], args := [d1, d2, d3] }
  | _ => none }
def debtMoreRow : OpenClaim := { program := "ytgmopcncbpdniaagreat", sum := "c98eb91852791bacd82958c0d5025ccc8813975868d82d041bc94ada6c940133", func := "pommel/pommellaw01.DebtMore", spec := "debtMore", unfollowed := true, recurses := true, apart := false }
def DebtMoreSaid : Prop := debtMoreRow.holds Tryz.pinned (OpenSpec.ofChange debtMoreSpec)

/-- ITS FALSE NEIGHBOUR: 'it returns false'. Refute it at one input. -/
def debtMoreWrong : ChangeSpec := { name := "debtMore", fn := fun _ => fun
  | [d1, d2, d3] => { results := [.lit (.bool false)], args := [d1, d2, d3] }
  | _ => none }
def DebtMoreWrongFalsely : Prop := debtMoreRow.holds Tryz.pinned (OpenSpec.ofChange debtMoreWrong)

/-- 'pommellaw01.DebtRounds': WHATEVER THE INPUT: true; the input reads as it did. -/
def debtRoundsSpec : ChangeSpec := { name := "debtRounds", fn := fun _ => fun
  | [d1, d2, d3] => { results := [.lit (.bool true)], args := [d1, d2, d3] }
  | _ => none }
def debtRoundsRow : OpenClaim := { program := "ytgmopcncbpdniaagreat", sum := "c98eb91852791bacd82958c0d5025ccc8813975868d82d041bc94ada6c940133", func := "pommel/pommellaw01.DebtRounds", spec := "debtRounds", unfollowed := true, recurses := true, apart := false }
def DebtRoundsSaid : Prop := debtRoundsRow.holds Tryz.pinned (OpenSpec.ofChange debtRoundsSpec)

/-- ITS FALSE NEIGHBOUR: 'it returns false'. Refute it at one input. -/
def debtRoundsWrong : ChangeSpec := { name := "debtRounds", fn := fun _ => fun
  | [d1, d2, d3] => { results := [.lit (.bool false)], args := [d1, d2, d3] }
  | _ => none }
def DebtRoundsWrongFalsely : Prop := debtRoundsRow.holds Tryz.pinned (OpenSpec.ofChange debtRoundsWrong)

/-- 'pommellaw01.DebtFails': WHATEVER THE INPUT: true; the input reads as it did. -/
def debtFailsSpec : ChangeSpec := { name := "debtFails", fn := fun _ => fun
  | [d1, d2] => { results := [.lit (.bool true)], args := [d1, d2] }
  | _ => none }
def debtFailsRow : OpenClaim := { program := "ytgmopcncbpdniaagreat", sum := "c98eb91852791bacd82958c0d5025ccc8813975868d82d041bc94ada6c940133", func := "pommel/pommellaw01.DebtFails", spec := "debtFails", unfollowed := true, recurses := true, apart := false }
def DebtFailsSaid : Prop := debtFailsRow.holds Tryz.pinned (OpenSpec.ofChange debtFailsSpec)

/-- ITS FALSE NEIGHBOUR: 'it returns false'. Refute it at one input. -/
def debtFailsWrong : ChangeSpec := { name := "debtFails", fn := fun _ => fun
  | [d1, d2] => { results := [.lit (.bool false)], args := [d1, d2] }
  | _ => none }
def DebtFailsWrongFalsely : Prop := debtFailsRow.holds Tryz.pinned (OpenSpec.ofChange debtFailsWrong)

/-- 'pommellaw01.DebtKept': WHATEVER THE INPUT: true; the input reads as it did. -/
def debtKeptSpec : ChangeSpec := { name := "debtKept", fn := fun _ => fun
  | [d1, d2, d3] => { results := [.lit (.bool true)], args := [d1, d2, d3] }
  | _ => none }
def debtKeptRow : OpenClaim := { program := "ytgmopcncbpdniaagreat", sum := "c98eb91852791bacd82958c0d5025ccc8813975868d82d041bc94ada6c940133", func := "pommel/pommellaw01.DebtKept", spec := "debtKept", unfollowed := true, recurses := true, apart := false }
def DebtKeptSaid : Prop := debtKeptRow.holds Tryz.pinned (OpenSpec.ofChange debtKeptSpec)

/-- ITS FALSE NEIGHBOUR: 'it returns false'. Refute it at one input. -/
def debtKeptWrong : ChangeSpec := { name := "debtKept", fn := fun _ => fun
  | [d1, d2, d3] => { results := [.lit (.bool false)], args := [d1, d2, d3] }
  | _ => none }
def DebtKeptWrongFalsely : Prop := debtKeptRow.holds Tryz.pinned (OpenSpec.ofChange debtKeptWrong)

/-- 'pommellaw01.DebtClears': WHATEVER THE INPUT: true; the input reads as it did. -/
def debtClearsSpec : ChangeSpec := { name := "debtClears", fn := fun _ => fun
  | [d1, d2] => { results := [.lit (.bool true)], args := [d1, d2] }
  | _ => none }
def debtClearsRow : OpenClaim := { program := "ytgmopcncbpdniaagreat", sum := "c98eb91852791bacd82958c0d5025ccc8813975868d82d041bc94ada6c940133", func := "pommel/pommellaw01.DebtClears", spec := "debtClears", unfollowed := true, recurses := true, apart := false }
def DebtClearsSaid : Prop := debtClearsRow.holds Tryz.pinned (OpenSpec.ofChange debtClearsSpec)

/-- ITS FALSE NEIGHBOUR: 'it returns false'. Refute it at one input. -/
def debtClearsWrong : ChangeSpec := { name := "debtClears", fn := fun _ => fun
  | [d1, d2] => { results := [.lit (.bool false)], args := [d1, d2] }
  | _ => none }
def DebtClearsWrongFalsely : Prop := debtClearsRow.holds Tryz.pinned (OpenSpec.ofChange debtClearsWrong)

/-- 'pommellaw01.DebtChecks': WHATEVER THE INPUT: true; the input reads as it did. -/
def debtChecksSpec : ChangeSpec := { name := "debtChecks", fn := fun _ => fun
  | [d1, d2, d3] => { results := [.lit (.bool true)], args := [d1, d2, d3] }
  | _ => none }
def debtChecksRow : OpenClaim := { program := "ytgmopcncbpdniaagreat", sum := "c98eb91852791bacd82958c0d5025ccc8813975868d82d041bc94ada6c940133", func := "pommel/pommellaw01.DebtChecks", spec := "debtChecks", inPlace := ["internal/bytealg.IndexByteString", "internal/bytealg.IndexString"], unfollowed := true, recurses := true, named := ["internal/bytealg.MaxLen"], apart := false }
def DebtChecksSaid : Prop := debtChecksRow.holds Tryz.pinned (OpenSpec.ofChange debtChecksSpec)

/-- ITS FALSE NEIGHBOUR: 'it returns false'. Refute it at one input. -/
def debtChecksWrong : ChangeSpec := { name := "debtChecks", fn := fun _ => fun
  | [d1, d2, d3] => { results := [.lit (.bool false)], args := [d1, d2, d3] }
  | _ => none }
def DebtChecksWrongFalsely : Prop := debtChecksRow.holds Tryz.pinned (OpenSpec.ofChange debtChecksWrong)

/-- 'pommellaw01.DebtBetween': WHATEVER THE INPUT: true; the input reads as it did. -/
def debtBetweenSpec : ChangeSpec := { name := "debtBetween", fn := fun _ => fun
  | [d1, d2, d3] => { results := [.lit (.bool true)], args := [d1, d2, d3] }
  | _ => none }
def debtBetweenRow : OpenClaim := { program := "ytgmopcncbpdniaagreat", sum := "c98eb91852791bacd82958c0d5025ccc8813975868d82d041bc94ada6c940133", func := "pommel/pommellaw01.DebtBetween", spec := "debtBetween", inPlace := ["internal/bytealg.IndexByteString", "internal/bytealg.IndexString"], unfollowed := true, recurses := true, named := ["internal/bytealg.MaxLen"], apart := false }
def DebtBetweenSaid : Prop := debtBetweenRow.holds Tryz.pinned (OpenSpec.ofChange debtBetweenSpec)

/-- ITS FALSE NEIGHBOUR: 'it returns false'. Refute it at one input. -/
def debtBetweenWrong : ChangeSpec := { name := "debtBetween", fn := fun _ => fun
  | [d1, d2, d3] => { results := [.lit (.bool false)], args := [d1, d2, d3] }
  | _ => none }
def DebtBetweenWrongFalsely : Prop := debtBetweenRow.holds Tryz.pinned (OpenSpec.ofChange debtBetweenWrong)

/- THE SECOND FORM. 'bulk': how many values and letters a reading holds, each counted each time it is reached (what is shared counts as often as it is met; a slice's spare places count too). A statement '..UptoSaid' is the law's where the arguments, and the package variables that the reading takes, are together of bulk at most 1048576: NARROWER than '..Said'. Prove '..Said' where nothing that the law and all that it calls make is longer than what came in: it says more and counts as full. Else prove '..UptoSaid'. A law counts once. -/
mutual
def uptoBulk {H : Type} : DataW H → Nat
  | .lit (.string bytes) => bytes.length + 1
  | .lit _ => 1
  | .nil => 1
  | .ptr d => uptoBulk d + 1
  | .slice elems spare => uptoBulkAll elems + uptoBulkAll spare + 1
  | .agg parts => uptoBulkAll parts + 1
  | .iface _ d => uptoBulk d + 1
  | .map entries => uptoBulkEntries entries + 1
  | .held _ => 1
def uptoBulkAll {H : Type} : List (DataW H) → Nat
  | [] => 0
  | d :: r => uptoBulk d + uptoBulkAll r
def uptoBulkEntries {H : Type} : List (Lit × DataW H) → Nat
  | [] => 0
  | x :: r => uptoBulkEntry x + uptoBulkEntries r
def uptoBulkEntry {H : Type} : Lit × DataW H → Nat
  | (.string bytes, d) => bytes.length + uptoBulk d + 1
  | (_, d) => uptoBulk d + 1
 end
def uptoSmall : (H : Type) → List (DataW H) → Bool := fun _ ds => decide (uptoBulkAll ds ≤ 1048576)
def OpenSpec.upto (s : _root_.Go.ChangeSpec) : _root_.Go.OpenSpec := { _root_.Go.OpenSpec.ofChange s with cond := some uptoSmall }

/-- 'pommellaw01.DebtMore', WHERE WHAT IT READS IS OF BULK AT MOST 1048576: true; the input reads as it did. -/
def debtMoreUptoRow : OpenClaim := { program := "ytgmopcncbpdniaagreat", sum := "c98eb91852791bacd82958c0d5025ccc8813975868d82d041bc94ada6c940133", func := "pommel/pommellaw01.DebtMore", spec := "debtMore", unfollowed := true, recurses := true, apart := false, narrowed := true }
def DebtMoreUptoSaid : Prop := debtMoreUptoRow.holds Tryz.pinned (OpenSpec.upto debtMoreSpec)

/-- 'pommellaw01.DebtRounds', WHERE WHAT IT READS IS OF BULK AT MOST 1048576: true; the input reads as it did. -/
def debtRoundsUptoRow : OpenClaim := { program := "ytgmopcncbpdniaagreat", sum := "c98eb91852791bacd82958c0d5025ccc8813975868d82d041bc94ada6c940133", func := "pommel/pommellaw01.DebtRounds", spec := "debtRounds", unfollowed := true, recurses := true, apart := false, narrowed := true }
def DebtRoundsUptoSaid : Prop := debtRoundsUptoRow.holds Tryz.pinned (OpenSpec.upto debtRoundsSpec)

/-- 'pommellaw01.DebtFails', WHERE WHAT IT READS IS OF BULK AT MOST 1048576: true; the input reads as it did. -/
def debtFailsUptoRow : OpenClaim := { program := "ytgmopcncbpdniaagreat", sum := "c98eb91852791bacd82958c0d5025ccc8813975868d82d041bc94ada6c940133", func := "pommel/pommellaw01.DebtFails", spec := "debtFails", unfollowed := true, recurses := true, apart := false, narrowed := true }
def DebtFailsUptoSaid : Prop := debtFailsUptoRow.holds Tryz.pinned (OpenSpec.upto debtFailsSpec)

/-- 'pommellaw01.DebtKept', WHERE WHAT IT READS IS OF BULK AT MOST 1048576: true; the input reads as it did. -/
def debtKeptUptoRow : OpenClaim := { program := "ytgmopcncbpdniaagreat", sum := "c98eb91852791bacd82958c0d5025ccc8813975868d82d041bc94ada6c940133", func := "pommel/pommellaw01.DebtKept", spec := "debtKept", unfollowed := true, recurses := true, apart := false, narrowed := true }
def DebtKeptUptoSaid : Prop := debtKeptUptoRow.holds Tryz.pinned (OpenSpec.upto debtKeptSpec)

/-- 'pommellaw01.DebtClears', WHERE WHAT IT READS IS OF BULK AT MOST 1048576: true; the input reads as it did. -/
def debtClearsUptoRow : OpenClaim := { program := "ytgmopcncbpdniaagreat", sum := "c98eb91852791bacd82958c0d5025ccc8813975868d82d041bc94ada6c940133", func := "pommel/pommellaw01.DebtClears", spec := "debtClears", unfollowed := true, recurses := true, apart := false, narrowed := true }
def DebtClearsUptoSaid : Prop := debtClearsUptoRow.holds Tryz.pinned (OpenSpec.upto debtClearsSpec)

/-- 'pommellaw01.DebtChecks', WHERE WHAT IT READS IS OF BULK AT MOST 1048576: true; the input reads as it did. -/
def debtChecksUptoRow : OpenClaim := { program := "ytgmopcncbpdniaagreat", sum := "c98eb91852791bacd82958c0d5025ccc8813975868d82d041bc94ada6c940133", func := "pommel/pommellaw01.DebtChecks", spec := "debtChecks", inPlace := ["internal/bytealg.IndexByteString", "internal/bytealg.IndexString"], unfollowed := true, recurses := true, named := ["internal/bytealg.MaxLen"], apart := false, narrowed := true }
def DebtChecksUptoSaid : Prop := debtChecksUptoRow.holds Tryz.pinned (OpenSpec.upto debtChecksSpec)

/-- 'pommellaw01.DebtBetween', WHERE WHAT IT READS IS OF BULK AT MOST 1048576: true; the input reads as it did. -/
def debtBetweenUptoRow : OpenClaim := { program := "ytgmopcncbpdniaagreat", sum := "c98eb91852791bacd82958c0d5025ccc8813975868d82d041bc94ada6c940133", func := "pommel/pommellaw01.DebtBetween", spec := "debtBetween", inPlace := ["internal/bytealg.IndexByteString", "internal/bytealg.IndexString"], unfollowed := true, recurses := true, named := ["internal/bytealg.MaxLen"], apart := false, narrowed := true }
def DebtBetweenUptoSaid : Prop := debtBetweenUptoRow.holds Tryz.pinned (OpenSpec.upto debtBetweenSpec)

end Rows
end Go.Proofs.YtgmopcncbpdniaaGreat
