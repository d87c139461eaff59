/-
  No cell of these rows narrows 'for every input' (looked for: loops, veiled, ifaces, maps, wideKeys, modest, calm, conditions, laid).
  DERIVED. THE GIVEN ROWS OF THIS SEAT. 4 by the template 'for every input the law returns true; each argument reads behind the call as it read before'; 0 by the template 'total and deterministic' (their statements: YtgmopcncbpdniaaTotals.lean).
  GIVEN WITH THE SEED: the statements are not yours to turn. If you find one false, say at which input.
  Laid BY PROGRAM, IN A SANDBOX (cutbox-rows.mjs): the forced cells as the released guide's own fill.sh prints them over the translation db122ff233653f45… (all of the seat's roots in one cut). By AI agents, Wed Nov 11 2026. No macro, syntax, notation, axiom, sorry.
-/
import Derived.Test.YtgmopcncbpdniaaChecked
import GoSem.Claim
import GoSem.ClaimJoined
import GoSem.ClaimMapViews
import Derived.JoinedTies
import Derived.KernelRfl
namespace Go.Proofs.Ytgmopcncbpdniaa
/- THE CELL 'sum', in the pinned program and in every row, IS THE sha256 OF THE DUMP (.gsa) THAT YtgmopcncbpdniaaProg.lean LOADS. Nothing in Lean hashes anything: it is a label: what it is worth is what the hold of that sum in a sandbox is worth. -/
noncomputable def Try.pinned : Pinned := { name := "ytgmopcncbpdniaa", sum := "db122ff233653f4554c75046e39f59be57f36b888b177f2e8abcf264221bdf8b", checked := Try.checked }
namespace Rows
def none {H : Type} : Left H := { results := [], args := [] }

/-- 'pommellaw01.DebtRings': WHATEVER THE INPUT: true; the input reads as it did. -/
def debtRingsSpec : ChangeSpec := { name := "debtRings", fn := fun _ => fun
  | [d1, d2] => { results := [.lit (.bool true)], args := [d1, d2] }
  | _ => none }
def debtRingsRow : OpenClaim := { program := "ytgmopcncbpdniaa", sum := "db122ff233653f4554c75046e39f59be57f36b888b177f2e8abcf264221bdf8b", func := "pommel/pommellaw01.DebtRings", spec := "debtRings", unfollowed := true, recurses := true, apart := false }
def DebtRingsSaid : Prop := debtRingsRow.holds Try.pinned (OpenSpec.ofChange debtRingsSpec)

/-- ITS FALSE NEIGHBOUR: 'it returns false'. Refute it at one input. -/
def debtRingsWrong : ChangeSpec := { name := "debtRings", fn := fun _ => fun
  | [d1, d2] => { results := [.lit (.bool false)], args := [d1, d2] }
  | _ => none }
def DebtRingsWrongFalsely : Prop := debtRingsRow.holds Try.pinned (OpenSpec.ofChange debtRingsWrong)

/-- 'pommellaw01.DebtCancels': WHATEVER THE INPUT: true; the input reads as it did. -/
def debtCancelsSpec : ChangeSpec := { name := "debtCancels", fn := fun _ => fun
  | [d] => { results := [.lit (.bool true)], args := [d] }
  | _ => none }
def debtCancelsRow : OpenClaim := { program := "ytgmopcncbpdniaa", sum := "db122ff233653f4554c75046e39f59be57f36b888b177f2e8abcf264221bdf8b", func := "pommel/pommellaw01.DebtCancels", spec := "debtCancels", unfollowed := true, recurses := true, apart := false }
def DebtCancelsSaid : Prop := debtCancelsRow.holds Try.pinned (OpenSpec.ofChange debtCancelsSpec)

/-- ITS FALSE NEIGHBOUR: 'it returns false'. Refute it at one input. -/
def debtCancelsWrong : ChangeSpec := { name := "debtCancels", fn := fun _ => fun
  | [d] => { results := [.lit (.bool false)], args := [d] }
  | _ => none }
def DebtCancelsWrongFalsely : Prop := debtCancelsRow.holds Try.pinned (OpenSpec.ofChange debtCancelsWrong)

/-- 'pommellaw01.DebtProves': WHATEVER THE INPUT: true; the input reads as it did. -/
def debtProvesSpec : ChangeSpec := { name := "debtProves", fn := fun _ => fun
  | [d1, d2, d3] => { results := [.lit (.bool true)], args := [d1, d2, d3] }
  | _ => none }
def debtProvesRow : OpenClaim := { program := "ytgmopcncbpdniaa", sum := "db122ff233653f4554c75046e39f59be57f36b888b177f2e8abcf264221bdf8b", func := "pommel/pommellaw01.DebtProves", spec := "debtProves", unfollowed := true, recurses := true, apart := false }
def DebtProvesSaid : Prop := debtProvesRow.holds Try.pinned (OpenSpec.ofChange debtProvesSpec)

/-- ITS FALSE NEIGHBOUR: 'it returns false'. Refute it at one input. -/
def debtProvesWrong : ChangeSpec := { name := "debtProves", fn := fun _ => fun
  | [d1, d2, d3] => { results := [.lit (.bool false)], args := [d1, d2, d3] }
  | _ => none }
def DebtProvesWrongFalsely : Prop := debtProvesRow.holds Try.pinned (OpenSpec.ofChange debtProvesWrong)

/-- 'pommellaw01.DebtProof': WHATEVER THE INPUT: true; the input reads as it did. -/
def debtProofSpec : ChangeSpec := { name := "debtProof", fn := fun _ => fun
  | [d1, d2, d3] => { results := [.lit (.bool true)], args := [d1, d2, d3] }
  | _ => none }
def debtProofRow : OpenClaim := { program := "ytgmopcncbpdniaa", sum := "db122ff233653f4554c75046e39f59be57f36b888b177f2e8abcf264221bdf8b", func := "pommel/pommellaw01.DebtProof", spec := "debtProof", unfollowed := true, recurses := true, apart := false }
def DebtProofSaid : Prop := debtProofRow.holds Try.pinned (OpenSpec.ofChange debtProofSpec)

/-- ITS FALSE NEIGHBOUR: 'it returns false'. Refute it at one input. -/
def debtProofWrong : ChangeSpec := { name := "debtProof", fn := fun _ => fun
  | [d1, d2, d3] => { results := [.lit (.bool false)], args := [d1, d2, d3] }
  | _ => none }
def DebtProofWrongFalsely : Prop := debtProofRow.holds Try.pinned (OpenSpec.ofChange debtProofWrong)

/- THE SECOND FORM. 'bulk': how many values and letters a reading holds, each counted each time it is reached (what is shared counts as often as it is met; a slice's spare places count too). A statement '..UptoSaid' is the law's where the arguments, and the package variables that the reading takes, are together of bulk at most 1048576: NARROWER than '..Said'. Prove '..Said' where nothing that the law and all that it calls make is longer than what came in: it says more and counts as full. Else prove '..UptoSaid'. A law counts once. -/
mutual
def uptoBulk {H : Type} : DataW H → Nat
  | .lit (.string bytes) => bytes.length + 1
  | .lit _ => 1
  | .nil => 1
  | .ptr d => uptoBulk d + 1
  | .slice elems spare => uptoBulkAll elems + uptoBulkAll spare + 1
  | .agg parts => uptoBulkAll parts + 1
  | .iface _ d => uptoBulk d + 1
  | .map entries => uptoBulkEntries entries + 1
  | .held _ => 1
def uptoBulkAll {H : Type} : List (DataW H) → Nat
  | [] => 0
  | d :: r => uptoBulk d + uptoBulkAll r
def uptoBulkEntries {H : Type} : List (Lit × DataW H) → Nat
  | [] => 0
  | x :: r => uptoBulkEntry x + uptoBulkEntries r
def uptoBulkEntry {H : Type} : Lit × DataW H → Nat
  | (.string bytes, d) => bytes.length + uptoBulk d + 1
  | (_, d) => uptoBulk d + 1
 end
def uptoSmall : (H : Type) → List (DataW H) → Bool := fun _ ds => decide (uptoBulkAll ds ≤ 1048576)
def OpenSpec.upto (s : _root_.Go.ChangeSpec) : _root_.Go.OpenSpec := { _root_.Go.OpenSpec.ofChange s with cond := some uptoSmall }

/-- 'pommellaw01.DebtRings', WHERE WHAT IT READS IS OF BULK AT MOST 1048576: true; the input reads as it did. -/
def debtRingsUptoRow : OpenClaim := { program := "ytgmopcncbpdniaa", sum := "db122ff233653f4554c75046e39f59be57f36b888b177f2e8abcf264221bdf8b", func := "pommel/pommellaw01.DebtRings", spec := "debtRings", unfollowed := true, recurses := true, apart := false, narrowed := true }
def DebtRingsUptoSaid : Prop := debtRingsUptoRow.holds Try.pinned (OpenSpec.upto debtRingsSpec)

/-- 'pommellaw01.DebtCancels', WHERE WHAT IT READS IS OF BULK AT MOST 1048576: true; the input reads as it did. -/
def debtCancelsUptoRow : OpenClaim := { program := "ytgmopcncbpdniaa", sum := "db122ff233653f4554c75046e39f59be57f36b888b177f2e8abcf264221bdf8b", func := "pommel/pommellaw01.DebtCancels", spec := "debtCancels", unfollowed := true, recurses := true, apart := false, narrowed := true }
def DebtCancelsUptoSaid : Prop := debtCancelsUptoRow.holds Try.pinned (OpenSpec.upto debtCancelsSpec)

/-- 'pommellaw01.DebtProves', WHERE WHAT IT READS IS OF BULK AT MOST 1048576: true; the input reads as it did. -/
def debtProvesUptoRow : OpenClaim := { program := "ytgmopcncbpdniaa", sum := "db122ff233653f4554c75046e39f59be57f36b888b177f2e8abcf264221bdf8b", func := "pommel/pommellaw01.DebtProves", spec := "debtProves", unfollowed := true, recurses := true, apart := false, narrowed := true }
def DebtProvesUptoSaid : Prop := debtProvesUptoRow.holds Try.pinned (OpenSpec.upto debtProvesSpec)

/-- 'pommellaw01.DebtProof', WHERE WHAT IT READS IS OF BULK AT MOST 1048576: true; the input reads as it did. -/
def debtProofUptoRow : OpenClaim := { program := "ytgmopcncbpdniaa", sum := "db122ff233653f4554c75046e39f59be57f36b888b177f2e8abcf264221bdf8b", func := "pommel/pommellaw01.DebtProof", spec := "debtProof", unfollowed := true, recurses := true, apart := false, narrowed := true }
def DebtProofUptoSaid : Prop := debtProofUptoRow.holds Try.pinned (OpenSpec.upto debtProofSpec)

end Rows
end Go.Proofs.Ytgmopcncbpdniaa
