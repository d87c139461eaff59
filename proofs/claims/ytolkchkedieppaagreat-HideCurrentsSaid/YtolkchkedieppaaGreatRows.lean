/-
  No cell of these rows narrows 'for every input' (looked for: loops, veiled, ifaces, maps, wideKeys, modest, calm, conditions, laid).
  DERIVED. THE GIVEN ROWS OF THIS SEAT. 12 by the template 'for every input the law returns true; each argument reads behind the call as it read before'; 0 by the template 'total and deterministic' (their statements: YtolkchkedieppaaGreatTotals.lean).
  GIVEN WITH THE SEED: the statements are not yours to turn. If you find one false, say at which input.
  Laid BY PROGRAM, IN A SANDBOX (cutbox-rows.mjs): the forced cells as the released guide's own fill.sh prints them over the translation 8f26e448442dea8a… (all of the seat's roots in one cut). By AI agents, Wed Nov 11 2026. No macro, syntax, notation, axiom, sorry.
-/
import Derived.Test.YtolkchkedieppaaGreatChecked
import GoSem.Claim
import GoSem.ClaimJoined
import GoSem.ClaimMapViews
import Derived.JoinedTies
import Derived.KernelRfl
namespace Go.Proofs.YtolkchkedieppaaGreat
/- THE CELL 'sum', in the pinned program and in every row, IS THE sha256 OF THE DUMP (.gsa) THAT YtolkchkedieppaaGreatProg.lean LOADS. Nothing in Lean hashes anything: it is a label: what it is worth is what the hold of that sum in a sandbox is worth. -/
noncomputable def Tryz.pinned : Pinned := { name := "ytolkchkedieppaagreat", sum := "8f26e448442dea8a2b75060bf2d334e06f4e1693cf2759b534670b5702e08fd9", checked := Tryz.checked }
namespace Rows
def none {H : Type} : Left H := { results := [], args := [] }

/-- 'pommellaw02.HideLays': WHATEVER THE INPUT: true; the input reads as it did. -/
def hideLaysSpec : ChangeSpec := { name := "hideLays", fn := fun _ => fun
  | [d1, d2] => { results := [.lit (.bool true)], args := [d1, d2] }
  | _ => none }
def hideLaysRow : OpenClaim := { program := "ytolkchkedieppaagreat", sum := "8f26e448442dea8a2b75060bf2d334e06f4e1693cf2759b534670b5702e08fd9", func := "pommel/pommellaw02.HideLays", spec := "hideLays", unfollowed := true, recurses := true, apart := false }
def HideLaysSaid : Prop := hideLaysRow.holds Tryz.pinned (OpenSpec.ofChange hideLaysSpec)

/-- ITS FALSE NEIGHBOUR: 'it returns false'. Refute it at one input. -/
def hideLaysWrong : ChangeSpec := { name := "hideLays", fn := fun _ => fun
  | [d1, d2] => { results := [.lit (.bool false)], args := [d1, d2] }
  | _ => none }
def HideLaysWrongFalsely : Prop := hideLaysRow.holds Tryz.pinned (OpenSpec.ofChange hideLaysWrong)

/-- 'pommellaw02.HideNets': WHATEVER THE INPUT: true; the input reads as it did. -/
def hideNetsSpec : ChangeSpec := { name := "hideNets", fn := fun _ => fun
  | [d] => { results := [.lit (.bool true)], args := [d] }
  | _ => none }
def hideNetsRow : OpenClaim := { program := "ytolkchkedieppaagreat", sum := "8f26e448442dea8a2b75060bf2d334e06f4e1693cf2759b534670b5702e08fd9", func := "pommel/pommellaw02.HideNets", spec := "hideNets", unfollowed := true, recurses := true, apart := false }
def HideNetsSaid : Prop := hideNetsRow.holds Tryz.pinned (OpenSpec.ofChange hideNetsSpec)

/-- ITS FALSE NEIGHBOUR: 'it returns false'. Refute it at one input. -/
def hideNetsWrong : ChangeSpec := { name := "hideNets", fn := fun _ => fun
  | [d] => { results := [.lit (.bool false)], args := [d] }
  | _ => none }
def HideNetsWrongFalsely : Prop := hideNetsRow.holds Tryz.pinned (OpenSpec.ofChange hideNetsWrong)

/-- 'pommellaw02.HideTrees': WHATEVER THE INPUT: true; the input reads as it did. -/
def hideTreesSpec : ChangeSpec := { name := "hideTrees", fn := fun _ => fun
  | [d] => { results := [.lit (.bool true)], args := [d] }
  | _ => none }
def hideTreesRow : OpenClaim := { program := "ytolkchkedieppaagreat", sum := "8f26e448442dea8a2b75060bf2d334e06f4e1693cf2759b534670b5702e08fd9", func := "pommel/pommellaw02.HideTrees", spec := "hideTrees", unfollowed := true, recurses := true, apart := false }
def HideTreesSaid : Prop := hideTreesRow.holds Tryz.pinned (OpenSpec.ofChange hideTreesSpec)

/-- ITS FALSE NEIGHBOUR: 'it returns false'. Refute it at one input. -/
def hideTreesWrong : ChangeSpec := { name := "hideTrees", fn := fun _ => fun
  | [d] => { results := [.lit (.bool false)], args := [d] }
  | _ => none }
def HideTreesWrongFalsely : Prop := hideTreesRow.holds Tryz.pinned (OpenSpec.ofChange hideTreesWrong)

/-- 'pommellaw02.HideCurrents': WHATEVER THE INPUT: true; the input reads as it did. -/
def hideCurrentsSpec : ChangeSpec := { name := "hideCurrents", fn := fun _ => fun
  | [d1, d2] => { results := [.lit (.bool true)], args := [d1, d2] }
  | _ => none }
def hideCurrentsRow : OpenClaim := { program := "ytolkchkedieppaagreat", sum := "8f26e448442dea8a2b75060bf2d334e06f4e1693cf2759b534670b5702e08fd9", func := "pommel/pommellaw02.HideCurrents", spec := "hideCurrents", unfollowed := true, recurses := true, apart := false }
def HideCurrentsSaid : Prop := hideCurrentsRow.holds Tryz.pinned (OpenSpec.ofChange hideCurrentsSpec)

/-- ITS FALSE NEIGHBOUR: 'it returns false'. Refute it at one input. -/
def hideCurrentsWrong : ChangeSpec := { name := "hideCurrents", fn := fun _ => fun
  | [d1, d2] => { results := [.lit (.bool false)], args := [d1, d2] }
  | _ => none }
def HideCurrentsWrongFalsely : Prop := hideCurrentsRow.holds Tryz.pinned (OpenSpec.ofChange hideCurrentsWrong)

/-- 'pommellaw02.HideCodes': WHATEVER THE INPUT: true; the input reads as it did. -/
def hideCodesSpec : ChangeSpec := { name := "hideCodes", fn := fun _ => fun
  | [d1, d2] => { results := [.lit (.bool true)], args := [d1, d2] }
  | _ => none }
def hideCodesRow : OpenClaim := { program := "ytolkchkedieppaagreat", sum := "8f26e448442dea8a2b75060bf2d334e06f4e1693cf2759b534670b5702e08fd9", func := "pommel/pommellaw02.HideCodes", spec := "hideCodes", unfollowed := true, recurses := true, apart := false }
def HideCodesSaid : Prop := hideCodesRow.holds Tryz.pinned (OpenSpec.ofChange hideCodesSpec)

/-- ITS FALSE NEIGHBOUR: 'it returns false'. Refute it at one input. -/
def hideCodesWrong : ChangeSpec := { name := "hideCodes", fn := fun _ => fun
  | [d1, d2] => { results := [.lit (.bool false)], args := [d1, d2] }
  | _ => none }
def HideCodesWrongFalsely : Prop := hideCodesRow.holds Tryz.pinned (OpenSpec.ofChange hideCodesWrong)

/-- 'pommellaw02.HideTutte': WHATEVER THE INPUT: true; the input reads as it did. -/
def hideTutteSpec : ChangeSpec := { name := "hideTutte", fn := fun _ => fun
  | [d1, d2] => { results := [.lit (.bool true)], args := [d1, d2] }
  | _ => none }
def hideTutteRow : OpenClaim := { program := "ytolkchkedieppaagreat", sum := "8f26e448442dea8a2b75060bf2d334e06f4e1693cf2759b534670b5702e08fd9", func := "pommel/pommellaw02.HideTutte", spec := "hideTutte", unfollowed := true, recurses := true, apart := false }
def HideTutteSaid : Prop := hideTutteRow.holds Tryz.pinned (OpenSpec.ofChange hideTutteSpec)

/-- ITS FALSE NEIGHBOUR: 'it returns false'. Refute it at one input. -/
def hideTutteWrong : ChangeSpec := { name := "hideTutte", fn := fun _ => fun
  | [d1, d2] => { results := [.lit (.bool false)], args := [d1, d2] }
  | _ => none }
def HideTutteWrongFalsely : Prop := hideTutteRow.holds Tryz.pinned (OpenSpec.ofChange hideTutteWrong)

/-- 'pommellaw02.HideEuclids': WHATEVER THE INPUT: true; the input reads as it did. -/
def hideEuclidsSpec : ChangeSpec := { name := "hideEuclids", fn := fun _ => fun
  | [d1, d2] => { results := [.lit (.bool true)], args := [d1, d2] }
  | _ => none }
def hideEuclidsRow : OpenClaim := { program := "ytolkchkedieppaagreat", sum := "8f26e448442dea8a2b75060bf2d334e06f4e1693cf2759b534670b5702e08fd9", func := "pommel/pommellaw02.HideEuclids", spec := "hideEuclids", unfollowed := true, recurses := true, apart := false }
def HideEuclidsSaid : Prop := hideEuclidsRow.holds Tryz.pinned (OpenSpec.ofChange hideEuclidsSpec)

/-- ITS FALSE NEIGHBOUR: 'it returns false'. Refute it at one input. -/
def hideEuclidsWrong : ChangeSpec := { name := "hideEuclids", fn := fun _ => fun
  | [d1, d2] => { results := [.lit (.bool false)], args := [d1, d2] }
  | _ => none }
def HideEuclidsWrongFalsely : Prop := hideEuclidsRow.holds Tryz.pinned (OpenSpec.ofChange hideEuclidsWrong)

/-- 'pommellaw02.HideFewest': WHATEVER THE INPUT: true; the input reads as it did. -/
def hideFewestSpec : ChangeSpec := { name := "hideFewest", fn := fun _ => fun
  | [d1, d2] => { results := [.lit (.bool true)], args := [d1, d2] }
  | _ => none }
def hideFewestRow : OpenClaim := { program := "ytolkchkedieppaagreat", sum := "8f26e448442dea8a2b75060bf2d334e06f4e1693cf2759b534670b5702e08fd9", func := "pommel/pommellaw02.HideFewest", spec := "hideFewest", unfollowed := true, recurses := true, apart := false }
def HideFewestSaid : Prop := hideFewestRow.holds Tryz.pinned (OpenSpec.ofChange hideFewestSpec)

/-- ITS FALSE NEIGHBOUR: 'it returns false'. Refute it at one input. -/
def hideFewestWrong : ChangeSpec := { name := "hideFewest", fn := fun _ => fun
  | [d1, d2] => { results := [.lit (.bool false)], args := [d1, d2] }
  | _ => none }
def HideFewestWrongFalsely : Prop := hideFewestRow.holds Tryz.pinned (OpenSpec.ofChange hideFewestWrong)

/-- 'pommellaw02.HideCompounds': WHATEVER THE INPUT: true; the input reads as it did. -/
def hideCompoundsSpec : ChangeSpec := { name := "hideCompounds", fn := fun _ => fun
  | [d] => { results := [.lit (.bool true)], args := [d] }
  | _ => none }
def hideCompoundsRow : OpenClaim := { program := "ytolkchkedieppaagreat", sum := "8f26e448442dea8a2b75060bf2d334e06f4e1693cf2759b534670b5702e08fd9", func := "pommel/pommellaw02.HideCompounds", spec := "hideCompounds", unfollowed := true, recurses := true, apart := false }
def HideCompoundsSaid : Prop := hideCompoundsRow.holds Tryz.pinned (OpenSpec.ofChange hideCompoundsSpec)

/-- ITS FALSE NEIGHBOUR: 'it returns false'. Refute it at one input. -/
def hideCompoundsWrong : ChangeSpec := { name := "hideCompounds", fn := fun _ => fun
  | [d] => { results := [.lit (.bool false)], args := [d] }
  | _ => none }
def HideCompoundsWrongFalsely : Prop := hideCompoundsRow.holds Tryz.pinned (OpenSpec.ofChange hideCompoundsWrong)

/-- 'pommellaw02.HideMirrored': WHATEVER THE INPUT: true; the input reads as it did. -/
def hideMirroredSpec : ChangeSpec := { name := "hideMirrored", fn := fun _ => fun
  | [d] => { results := [.lit (.bool true)], args := [d] }
  | _ => none }
def hideMirroredRow : OpenClaim := { program := "ytolkchkedieppaagreat", sum := "8f26e448442dea8a2b75060bf2d334e06f4e1693cf2759b534670b5702e08fd9", func := "pommel/pommellaw02.HideMirrored", spec := "hideMirrored", unfollowed := true, recurses := true, apart := false }
def HideMirroredSaid : Prop := hideMirroredRow.holds Tryz.pinned (OpenSpec.ofChange hideMirroredSpec)

/-- ITS FALSE NEIGHBOUR: 'it returns false'. Refute it at one input. -/
def hideMirroredWrong : ChangeSpec := { name := "hideMirrored", fn := fun _ => fun
  | [d] => { results := [.lit (.bool false)], args := [d] }
  | _ => none }
def HideMirroredWrongFalsely : Prop := hideMirroredRow.holds Tryz.pinned (OpenSpec.ofChange hideMirroredWrong)

/-- 'pommellaw02.HideLess': WHATEVER THE INPUT: true; the input reads as it did. -/
def hideLessSpec : ChangeSpec := { name := "hideLess", fn := fun _ => fun
  | [d1, d2] => { results := [.lit (.bool true)], args := [d1, d2] }
  | _ => none }
def hideLessRow : OpenClaim := { program := "ytolkchkedieppaagreat", sum := "8f26e448442dea8a2b75060bf2d334e06f4e1693cf2759b534670b5702e08fd9", func := "pommel/pommellaw02.HideLess", spec := "hideLess", unfollowed := true, recurses := true, apart := false }
def HideLessSaid : Prop := hideLessRow.holds Tryz.pinned (OpenSpec.ofChange hideLessSpec)

/-- ITS FALSE NEIGHBOUR: 'it returns false'. Refute it at one input. -/
def hideLessWrong : ChangeSpec := { name := "hideLess", fn := fun _ => fun
  | [d1, d2] => { results := [.lit (.bool false)], args := [d1, d2] }
  | _ => none }
def HideLessWrongFalsely : Prop := hideLessRow.holds Tryz.pinned (OpenSpec.ofChange hideLessWrong)

/-- 'pommellaw02.HideMeasures': WHATEVER THE INPUT: true; the input reads as it did. -/
def hideMeasuresSpec : ChangeSpec := { name := "hideMeasures", fn := fun _ => fun
  | [d] => { results := [.lit (.bool true)], args := [d] }
  | _ => none }
def hideMeasuresRow : OpenClaim := { program := "ytolkchkedieppaagreat", sum := "8f26e448442dea8a2b75060bf2d334e06f4e1693cf2759b534670b5702e08fd9", func := "pommel/pommellaw02.HideMeasures", spec := "hideMeasures", unfollowed := true, recurses := true, apart := false }
def HideMeasuresSaid : Prop := hideMeasuresRow.holds Tryz.pinned (OpenSpec.ofChange hideMeasuresSpec)

/-- ITS FALSE NEIGHBOUR: 'it returns false'. Refute it at one input. -/
def hideMeasuresWrong : ChangeSpec := { name := "hideMeasures", fn := fun _ => fun
  | [d] => { results := [.lit (.bool false)], args := [d] }
  | _ => none }
def HideMeasuresWrongFalsely : Prop := hideMeasuresRow.holds Tryz.pinned (OpenSpec.ofChange hideMeasuresWrong)

/- THE SECOND FORM. 'bulk': how many values and letters a reading holds, each counted each time it is reached (what is shared counts as often as it is met; a slice's spare places count too). A statement '..UptoSaid' is the law's where the arguments, and the package variables that the reading takes, are together of bulk at most 1048576: NARROWER than '..Said'. Prove '..Said' where nothing that the law and all that it calls make is longer than what came in: it says more and counts as full. Else prove '..UptoSaid'. A law counts once. -/
mutual
def uptoBulk {H : Type} : DataW H → Nat
  | .lit (.string bytes) => bytes.length + 1
  | .lit _ => 1
  | .nil => 1
  | .ptr d => uptoBulk d + 1
  | .slice elems spare => uptoBulkAll elems + uptoBulkAll spare + 1
  | .agg parts => uptoBulkAll parts + 1
  | .iface _ d => uptoBulk d + 1
  | .map entries => uptoBulkEntries entries + 1
  | .held _ => 1
def uptoBulkAll {H : Type} : List (DataW H) → Nat
  | [] => 0
  | d :: r => uptoBulk d + uptoBulkAll r
def uptoBulkEntries {H : Type} : List (Lit × DataW H) → Nat
  | [] => 0
  | x :: r => uptoBulkEntry x + uptoBulkEntries r
def uptoBulkEntry {H : Type} : Lit × DataW H → Nat
  | (.string bytes, d) => bytes.length + uptoBulk d + 1
  | (_, d) => uptoBulk d + 1
 end
def uptoSmall : (H : Type) → List (DataW H) → Bool := fun _ ds => decide (uptoBulkAll ds ≤ 1048576)
def OpenSpec.upto (s : _root_.Go.ChangeSpec) : _root_.Go.OpenSpec := { _root_.Go.OpenSpec.ofChange s with cond := some uptoSmall }

/-- 'pommellaw02.HideLays', WHERE WHAT IT READS IS OF BULK AT MOST 1048576: true; the input reads as it did. -/
def hideLaysUptoRow : OpenClaim := { program := "ytolkchkedieppaagreat", sum := "8f26e448442dea8a2b75060bf2d334e06f4e1693cf2759b534670b5702e08fd9", func := "pommel/pommellaw02.HideLays", spec := "hideLays", unfollowed := true, recurses := true, apart := false, narrowed := true }
def HideLaysUptoSaid : Prop := hideLaysUptoRow.holds Tryz.pinned (OpenSpec.upto hideLaysSpec)

/-- 'pommellaw02.HideNets', WHERE WHAT IT READS IS OF BULK AT MOST 1048576: true; the input reads as it did. -/
def hideNetsUptoRow : OpenClaim := { program := "ytolkchkedieppaagreat", sum := "8f26e448442dea8a2b75060bf2d334e06f4e1693cf2759b534670b5702e08fd9", func := "pommel/pommellaw02.HideNets", spec := "hideNets", unfollowed := true, recurses := true, apart := false, narrowed := true }
def HideNetsUptoSaid : Prop := hideNetsUptoRow.holds Tryz.pinned (OpenSpec.upto hideNetsSpec)

/-- 'pommellaw02.HideTrees', WHERE WHAT IT READS IS OF BULK AT MOST 1048576: true; the input reads as it did. -/
def hideTreesUptoRow : OpenClaim := { program := "ytolkchkedieppaagreat", sum := "8f26e448442dea8a2b75060bf2d334e06f4e1693cf2759b534670b5702e08fd9", func := "pommel/pommellaw02.HideTrees", spec := "hideTrees", unfollowed := true, recurses := true, apart := false, narrowed := true }
def HideTreesUptoSaid : Prop := hideTreesUptoRow.holds Tryz.pinned (OpenSpec.upto hideTreesSpec)

/-- 'pommellaw02.HideCurrents', WHERE WHAT IT READS IS OF BULK AT MOST 1048576: true; the input reads as it did. -/
def hideCurrentsUptoRow : OpenClaim := { program := "ytolkchkedieppaagreat", sum := "8f26e448442dea8a2b75060bf2d334e06f4e1693cf2759b534670b5702e08fd9", func := "pommel/pommellaw02.HideCurrents", spec := "hideCurrents", unfollowed := true, recurses := true, apart := false, narrowed := true }
def HideCurrentsUptoSaid : Prop := hideCurrentsUptoRow.holds Tryz.pinned (OpenSpec.upto hideCurrentsSpec)

/-- 'pommellaw02.HideCodes', WHERE WHAT IT READS IS OF BULK AT MOST 1048576: true; the input reads as it did. -/
def hideCodesUptoRow : OpenClaim := { program := "ytolkchkedieppaagreat", sum := "8f26e448442dea8a2b75060bf2d334e06f4e1693cf2759b534670b5702e08fd9", func := "pommel/pommellaw02.HideCodes", spec := "hideCodes", unfollowed := true, recurses := true, apart := false, narrowed := true }
def HideCodesUptoSaid : Prop := hideCodesUptoRow.holds Tryz.pinned (OpenSpec.upto hideCodesSpec)

/-- 'pommellaw02.HideTutte', WHERE WHAT IT READS IS OF BULK AT MOST 1048576: true; the input reads as it did. -/
def hideTutteUptoRow : OpenClaim := { program := "ytolkchkedieppaagreat", sum := "8f26e448442dea8a2b75060bf2d334e06f4e1693cf2759b534670b5702e08fd9", func := "pommel/pommellaw02.HideTutte", spec := "hideTutte", unfollowed := true, recurses := true, apart := false, narrowed := true }
def HideTutteUptoSaid : Prop := hideTutteUptoRow.holds Tryz.pinned (OpenSpec.upto hideTutteSpec)

/-- 'pommellaw02.HideEuclids', WHERE WHAT IT READS IS OF BULK AT MOST 1048576: true; the input reads as it did. -/
def hideEuclidsUptoRow : OpenClaim := { program := "ytolkchkedieppaagreat", sum := "8f26e448442dea8a2b75060bf2d334e06f4e1693cf2759b534670b5702e08fd9", func := "pommel/pommellaw02.HideEuclids", spec := "hideEuclids", unfollowed := true, recurses := true, apart := false, narrowed := true }
def HideEuclidsUptoSaid : Prop := hideEuclidsUptoRow.holds Tryz.pinned (OpenSpec.upto hideEuclidsSpec)

/-- 'pommellaw02.HideFewest', WHERE WHAT IT READS IS OF BULK AT MOST 1048576: true; the input reads as it did. -/
def hideFewestUptoRow : OpenClaim := { program := "ytolkchkedieppaagreat", sum := "8f26e448442dea8a2b75060bf2d334e06f4e1693cf2759b534670b5702e08fd9", func := "pommel/pommellaw02.HideFewest", spec := "hideFewest", unfollowed := true, recurses := true, apart := false, narrowed := true }
def HideFewestUptoSaid : Prop := hideFewestUptoRow.holds Tryz.pinned (OpenSpec.upto hideFewestSpec)

/-- 'pommellaw02.HideCompounds', WHERE WHAT IT READS IS OF BULK AT MOST 1048576: true; the input reads as it did. -/
def hideCompoundsUptoRow : OpenClaim := { program := "ytolkchkedieppaagreat", sum := "8f26e448442dea8a2b75060bf2d334e06f4e1693cf2759b534670b5702e08fd9", func := "pommel/pommellaw02.HideCompounds", spec := "hideCompounds", unfollowed := true, recurses := true, apart := false, narrowed := true }
def HideCompoundsUptoSaid : Prop := hideCompoundsUptoRow.holds Tryz.pinned (OpenSpec.upto hideCompoundsSpec)

/-- 'pommellaw02.HideMirrored', WHERE WHAT IT READS IS OF BULK AT MOST 1048576: true; the input reads as it did. -/
def hideMirroredUptoRow : OpenClaim := { program := "ytolkchkedieppaagreat", sum := "8f26e448442dea8a2b75060bf2d334e06f4e1693cf2759b534670b5702e08fd9", func := "pommel/pommellaw02.HideMirrored", spec := "hideMirrored", unfollowed := true, recurses := true, apart := false, narrowed := true }
def HideMirroredUptoSaid : Prop := hideMirroredUptoRow.holds Tryz.pinned (OpenSpec.upto hideMirroredSpec)

/-- 'pommellaw02.HideLess', WHERE WHAT IT READS IS OF BULK AT MOST 1048576: true; the input reads as it did. -/
def hideLessUptoRow : OpenClaim := { program := "ytolkchkedieppaagreat", sum := "8f26e448442dea8a2b75060bf2d334e06f4e1693cf2759b534670b5702e08fd9", func := "pommel/pommellaw02.HideLess", spec := "hideLess", unfollowed := true, recurses := true, apart := false, narrowed := true }
def HideLessUptoSaid : Prop := hideLessUptoRow.holds Tryz.pinned (OpenSpec.upto hideLessSpec)

/-- 'pommellaw02.HideMeasures', WHERE WHAT IT READS IS OF BULK AT MOST 1048576: true; the input reads as it did. -/
def hideMeasuresUptoRow : OpenClaim := { program := "ytolkchkedieppaagreat", sum := "8f26e448442dea8a2b75060bf2d334e06f4e1693cf2759b534670b5702e08fd9", func := "pommel/pommellaw02.HideMeasures", spec := "hideMeasures", unfollowed := true, recurses := true, apart := false, narrowed := true }
def HideMeasuresUptoSaid : Prop := hideMeasuresUptoRow.holds Tryz.pinned (OpenSpec.upto hideMeasuresSpec)

end Rows
end Go.Proofs.YtolkchkedieppaaGreat
