/-
  No cell of these rows narrows 'for every input' (looked for: loops, veiled, ifaces, maps, wideKeys, modest, calm, conditions, laid).
  DERIVED. THE GIVEN ROWS OF THIS SEAT. 12 by the template 'for every input the law returns true; each argument reads behind the call as it read before'; 0 by the template 'total and deterministic' (their statements: YthoojcmnkhhokaaTotals.lean).
  GIVEN WITH THE SEED: the statements are not yours to turn. If you find one false, say at which input.
  Laid BY PROGRAM, IN A SANDBOX (cutbox-rows.mjs): the forced cells as the released guide's own fill.sh prints them over the translation 9e161d332c2e64dd… (all of the seat's roots in one cut). By AI agents, Wed Nov 11 2026. No macro, syntax, notation, axiom, sorry.
-/
import Derived.Test.YthoojcmnkhhokaaChecked
import GoSem.Claim
import GoSem.ClaimJoined
import GoSem.ClaimMapViews
import Derived.JoinedTies
import Derived.KernelRfl
namespace Go.Proofs.Ythoojcmnkhhokaa
/- THE CELL 'sum', in the pinned program and in every row, IS THE sha256 OF THE DUMP (.gsa) THAT YthoojcmnkhhokaaProg.lean LOADS. Nothing in Lean hashes anything: it is a label: what it is worth is what the hold of that sum in a sandbox is worth. -/
noncomputable def Try.pinned : Pinned := { name := "ythoojcmnkhhokaa", sum := "9e161d332c2e64dd1e39ff97b1b60556ff5e7012d137dcf04133f37c074fe97d", checked := Try.checked }
namespace Rows
def none {H : Type} : Left H := { results := [], args := [] }

/-- 'laws.FnExactIsScheme': WHATEVER THE INPUT: true; the input reads as it did. -/
def fnExactIsSchemeSpec : ChangeSpec := { name := "fnExactIsScheme", fn := fun _ => fun
  | [d] => { results := [.lit (.bool true)], args := [d] }
  | _ => none }
def fnExactIsSchemeRow : OpenClaim := { program := "ythoojcmnkhhokaa", sum := "9e161d332c2e64dd1e39ff97b1b60556ff5e7012d137dcf04133f37c074fe97d", func := "loop.example/g01006/laws.FnExactIsScheme", spec := "fnExactIsScheme", apart := false }
def FnExactIsSchemeSaid : Prop := fnExactIsSchemeRow.holds Try.pinned (OpenSpec.ofChange fnExactIsSchemeSpec)

/-- ITS FALSE NEIGHBOUR: 'it returns false'. Refute it at one input. -/
def fnExactIsSchemeWrong : ChangeSpec := { name := "fnExactIsScheme", fn := fun _ => fun
  | [d] => { results := [.lit (.bool false)], args := [d] }
  | _ => none }
def FnExactIsSchemeWrongFalsely : Prop := fnExactIsSchemeRow.holds Try.pinned (OpenSpec.ofChange fnExactIsSchemeWrong)

/-- 'laws.FnExactPercentOf': WHATEVER THE INPUT: true; the input reads as it did. -/
def fnExactPercentOfSpec : ChangeSpec := { name := "fnExactPercentOf", fn := fun _ => fun
  | [d1, d2] => { results := [.lit (.bool true)], args := [d1, d2] }
  | _ => none }
def fnExactPercentOfRow : OpenClaim := { program := "ythoojcmnkhhokaa", sum := "9e161d332c2e64dd1e39ff97b1b60556ff5e7012d137dcf04133f37c074fe97d", func := "loop.example/g01006/laws.FnExactPercentOf", spec := "fnExactPercentOf", apart := false }
def FnExactPercentOfSaid : Prop := fnExactPercentOfRow.holds Try.pinned (OpenSpec.ofChange fnExactPercentOfSpec)

/-- ITS FALSE NEIGHBOUR: 'it returns false'. Refute it at one input. -/
def fnExactPercentOfWrong : ChangeSpec := { name := "fnExactPercentOf", fn := fun _ => fun
  | [d1, d2] => { results := [.lit (.bool false)], args := [d1, d2] }
  | _ => none }
def FnExactPercentOfWrongFalsely : Prop := fnExactPercentOfRow.holds Try.pinned (OpenSpec.ofChange fnExactPercentOfWrong)

/-- 'laws.FnExactPointsMissing': WHATEVER THE INPUT: true; the input reads as it did. -/
def fnExactPointsMissingSpec : ChangeSpec := { name := "fnExactPointsMissing", fn := fun _ => fun
  | [d1, d2] => { results := [.lit (.bool true)], args := [d1, d2] }
  | _ => none }
def fnExactPointsMissingRow : OpenClaim := { program := "ythoojcmnkhhokaa", sum := "9e161d332c2e64dd1e39ff97b1b60556ff5e7012d137dcf04133f37c074fe97d", func := "loop.example/g01006/laws.FnExactPointsMissing", spec := "fnExactPointsMissing", apart := false }
def FnExactPointsMissingSaid : Prop := fnExactPointsMissingRow.holds Try.pinned (OpenSpec.ofChange fnExactPointsMissingSpec)

/-- ITS FALSE NEIGHBOUR: 'it returns false'. Refute it at one input. -/
def fnExactPointsMissingWrong : ChangeSpec := { name := "fnExactPointsMissing", fn := fun _ => fun
  | [d1, d2] => { results := [.lit (.bool false)], args := [d1, d2] }
  | _ => none }
def FnExactPointsMissingWrongFalsely : Prop := fnExactPointsMissingRow.holds Try.pinned (OpenSpec.ofChange fnExactPointsMissingWrong)

/-- 'laws.FnExactAreTries': WHATEVER THE INPUT: true; the input reads as it did. -/
def fnExactAreTriesSpec : ChangeSpec := { name := "fnExactAreTries", fn := fun _ => fun
  | [d1, d2] => { results := [.lit (.bool true)], args := [d1, d2] }
  | _ => none }
def fnExactAreTriesRow : OpenClaim := { program := "ythoojcmnkhhokaa", sum := "9e161d332c2e64dd1e39ff97b1b60556ff5e7012d137dcf04133f37c074fe97d", func := "loop.example/g01006/laws.FnExactAreTries", spec := "fnExactAreTries", apart := false }
def FnExactAreTriesSaid : Prop := fnExactAreTriesRow.holds Try.pinned (OpenSpec.ofChange fnExactAreTriesSpec)

/-- ITS FALSE NEIGHBOUR: 'it returns false'. Refute it at one input. -/
def fnExactAreTriesWrong : ChangeSpec := { name := "fnExactAreTries", fn := fun _ => fun
  | [d1, d2] => { results := [.lit (.bool false)], args := [d1, d2] }
  | _ => none }
def FnExactAreTriesWrongFalsely : Prop := fnExactAreTriesRow.holds Try.pinned (OpenSpec.ofChange fnExactAreTriesWrong)

/-- 'laws.FnExactResultOf': WHATEVER THE INPUT: true; the input reads as it did. -/
def fnExactResultOfSpec : ChangeSpec := { name := "fnExactResultOf", fn := fun _ => fun
  | [d1, d2] => { results := [.lit (.bool true)], args := [d1, d2] }
  | _ => none }
def fnExactResultOfRow : OpenClaim := { program := "ythoojcmnkhhokaa", sum := "9e161d332c2e64dd1e39ff97b1b60556ff5e7012d137dcf04133f37c074fe97d", func := "loop.example/g01006/laws.FnExactResultOf", spec := "fnExactResultOf", apart := false }
def FnExactResultOfSaid : Prop := fnExactResultOfRow.holds Try.pinned (OpenSpec.ofChange fnExactResultOfSpec)

/-- ITS FALSE NEIGHBOUR: 'it returns false'. Refute it at one input. -/
def fnExactResultOfWrong : ChangeSpec := { name := "fnExactResultOf", fn := fun _ => fun
  | [d1, d2] => { results := [.lit (.bool false)], args := [d1, d2] }
  | _ => none }
def FnExactResultOfWrongFalsely : Prop := fnExactResultOfRow.holds Try.pinned (OpenSpec.ofChange fnExactResultOfWrong)

/-- 'laws.FnExactWeakParts': WHATEVER THE INPUT: true; the input reads as it did. -/
def fnExactWeakPartsSpec : ChangeSpec := { name := "fnExactWeakParts", fn := fun _ => fun
  | [d1, d2] => { results := [.lit (.bool true)], args := [d1, d2] }
  | _ => none }
def fnExactWeakPartsRow : OpenClaim := { program := "ythoojcmnkhhokaa", sum := "9e161d332c2e64dd1e39ff97b1b60556ff5e7012d137dcf04133f37c074fe97d", func := "loop.example/g01006/laws.FnExactWeakParts", spec := "fnExactWeakParts", apart := false }
def FnExactWeakPartsSaid : Prop := fnExactWeakPartsRow.holds Try.pinned (OpenSpec.ofChange fnExactWeakPartsSpec)

/-- ITS FALSE NEIGHBOUR: 'it returns false'. Refute it at one input. -/
def fnExactWeakPartsWrong : ChangeSpec := { name := "fnExactWeakParts", fn := fun _ => fun
  | [d1, d2] => { results := [.lit (.bool false)], args := [d1, d2] }
  | _ => none }
def FnExactWeakPartsWrongFalsely : Prop := fnExactWeakPartsRow.holds Try.pinned (OpenSpec.ofChange fnExactWeakPartsWrong)

/-- 'laws.FnExactHardestPart': WHATEVER THE INPUT: true; the input reads as it did. -/
def fnExactHardestPartSpec : ChangeSpec := { name := "fnExactHardestPart", fn := fun _ => fun
  | [d1, d2] => { results := [.lit (.bool true)], args := [d1, d2] }
  | _ => none }
def fnExactHardestPartRow : OpenClaim := { program := "ythoojcmnkhhokaa", sum := "9e161d332c2e64dd1e39ff97b1b60556ff5e7012d137dcf04133f37c074fe97d", func := "loop.example/g01006/laws.FnExactHardestPart", spec := "fnExactHardestPart", apart := false }
def FnExactHardestPartSaid : Prop := fnExactHardestPartRow.holds Try.pinned (OpenSpec.ofChange fnExactHardestPartSpec)

/-- ITS FALSE NEIGHBOUR: 'it returns false'. Refute it at one input. -/
def fnExactHardestPartWrong : ChangeSpec := { name := "fnExactHardestPart", fn := fun _ => fun
  | [d1, d2] => { results := [.lit (.bool false)], args := [d1, d2] }
  | _ => none }
def FnExactHardestPartWrongFalsely : Prop := fnExactHardestPartRow.holds Try.pinned (OpenSpec.ofChange fnExactHardestPartWrong)

/-- 'laws.FnExactRankTries': WHATEVER THE INPUT: true; the input reads as it did. -/
def fnExactRankTriesSpec : ChangeSpec := { name := "fnExactRankTries", fn := fun _ => fun
  | [d1, d2] => { results := [.lit (.bool true)], args := [d1, d2] }
  | _ => none }
def fnExactRankTriesRow : OpenClaim := { program := "ythoojcmnkhhokaa", sum := "9e161d332c2e64dd1e39ff97b1b60556ff5e7012d137dcf04133f37c074fe97d", func := "loop.example/g01006/laws.FnExactRankTries", spec := "fnExactRankTries", apart := false }
def FnExactRankTriesSaid : Prop := fnExactRankTriesRow.holds Try.pinned (OpenSpec.ofChange fnExactRankTriesSpec)

/-- ITS FALSE NEIGHBOUR: 'it returns false'. Refute it at one input. -/
def fnExactRankTriesWrong : ChangeSpec := { name := "fnExactRankTries", fn := fun _ => fun
  | [d1, d2] => { results := [.lit (.bool false)], args := [d1, d2] }
  | _ => none }
def FnExactRankTriesWrongFalsely : Prop := fnExactRankTriesRow.holds Try.pinned (OpenSpec.ofChange fnExactRankTriesWrong)

/-- 'laws.FnExactCountingTries': WHATEVER THE INPUT: true; the input reads as it did. -/
def fnExactCountingTriesSpec : ChangeSpec := { name := "fnExactCountingTries", fn := fun _ => fun
  | [d1, d2] => { results := [.lit (.bool true)], args := [d1, d2] }
  | _ => none }
def fnExactCountingTriesRow : OpenClaim := { program := "ythoojcmnkhhokaa", sum := "9e161d332c2e64dd1e39ff97b1b60556ff5e7012d137dcf04133f37c074fe97d", func := "loop.example/g01006/laws.FnExactCountingTries", spec := "fnExactCountingTries", apart := false }
def FnExactCountingTriesSaid : Prop := fnExactCountingTriesRow.holds Try.pinned (OpenSpec.ofChange fnExactCountingTriesSpec)

/-- ITS FALSE NEIGHBOUR: 'it returns false'. Refute it at one input. -/
def fnExactCountingTriesWrong : ChangeSpec := { name := "fnExactCountingTries", fn := fun _ => fun
  | [d1, d2] => { results := [.lit (.bool false)], args := [d1, d2] }
  | _ => none }
def FnExactCountingTriesWrongFalsely : Prop := fnExactCountingTriesRow.holds Try.pinned (OpenSpec.ofChange fnExactCountingTriesWrong)

/-- 'laws.FnExactGradesOf': WHATEVER THE INPUT: true; the input reads as it did. -/
def fnExactGradesOfSpec : ChangeSpec := { name := "fnExactGradesOf", fn := fun _ => fun
  | [d1, d2] => { results := [.lit (.bool true)], args := [d1, d2] }
  | _ => none }
def fnExactGradesOfRow : OpenClaim := { program := "ythoojcmnkhhokaa", sum := "9e161d332c2e64dd1e39ff97b1b60556ff5e7012d137dcf04133f37c074fe97d", func := "loop.example/g01006/laws.FnExactGradesOf", spec := "fnExactGradesOf", apart := false }
def FnExactGradesOfSaid : Prop := fnExactGradesOfRow.holds Try.pinned (OpenSpec.ofChange fnExactGradesOfSpec)

/-- ITS FALSE NEIGHBOUR: 'it returns false'. Refute it at one input. -/
def fnExactGradesOfWrong : ChangeSpec := { name := "fnExactGradesOf", fn := fun _ => fun
  | [d1, d2] => { results := [.lit (.bool false)], args := [d1, d2] }
  | _ => none }
def FnExactGradesOfWrongFalsely : Prop := fnExactGradesOfRow.holds Try.pinned (OpenSpec.ofChange fnExactGradesOfWrong)

/-- 'laws.FnTries': WHATEVER THE INPUT: true; the input reads as it did. -/
def fnTriesSpec : ChangeSpec := { name := "fnTries", fn := fun _ => fun
  | [d] => { results := [.lit (.bool true)], args := [d] }
  | _ => none }
def fnTriesRow : OpenClaim := { program := "ythoojcmnkhhokaa", sum := "9e161d332c2e64dd1e39ff97b1b60556ff5e7012d137dcf04133f37c074fe97d", func := "loop.example/g01006/laws.FnTries", spec := "fnTries", apart := false }
def FnTriesSaid : Prop := fnTriesRow.holds Try.pinned (OpenSpec.ofChange fnTriesSpec)

/-- ITS FALSE NEIGHBOUR: 'it returns false'. Refute it at one input. -/
def fnTriesWrong : ChangeSpec := { name := "fnTries", fn := fun _ => fun
  | [d] => { results := [.lit (.bool false)], args := [d] }
  | _ => none }
def FnTriesWrongFalsely : Prop := fnTriesRow.holds Try.pinned (OpenSpec.ofChange fnTriesWrong)

/-- 'laws.FnGrades': WHATEVER THE INPUT: true; the input reads as it did. -/
def fnGradesSpec : ChangeSpec := { name := "fnGrades", fn := fun _ => fun
  | [d] => { results := [.lit (.bool true)], args := [d] }
  | _ => none }
def fnGradesRow : OpenClaim := { program := "ythoojcmnkhhokaa", sum := "9e161d332c2e64dd1e39ff97b1b60556ff5e7012d137dcf04133f37c074fe97d", func := "loop.example/g01006/laws.FnGrades", spec := "fnGrades", apart := false }
def FnGradesSaid : Prop := fnGradesRow.holds Try.pinned (OpenSpec.ofChange fnGradesSpec)

/-- ITS FALSE NEIGHBOUR: 'it returns false'. Refute it at one input. -/
def fnGradesWrong : ChangeSpec := { name := "fnGrades", fn := fun _ => fun
  | [d] => { results := [.lit (.bool false)], args := [d] }
  | _ => none }
def FnGradesWrongFalsely : Prop := fnGradesRow.holds Try.pinned (OpenSpec.ofChange fnGradesWrong)

/- THE SECOND FORM. 'bulk': how many values and letters a reading holds, each counted each time it is reached (what is shared counts as often as it is met; a slice's spare places count too). A statement '..UptoSaid' is the law's where the arguments, and the package variables that the reading takes, are together of bulk at most 1048576: NARROWER than '..Said'. Prove '..Said' where nothing that the law and all that it calls make is longer than what came in: it says more and counts as full. Else prove '..UptoSaid'. A law counts once. -/
mutual
def uptoBulk {H : Type} : DataW H → Nat
  | .lit (.string bytes) => bytes.length + 1
  | .lit _ => 1
  | .nil => 1
  | .ptr d => uptoBulk d + 1
  | .slice elems spare => uptoBulkAll elems + uptoBulkAll spare + 1
  | .agg parts => uptoBulkAll parts + 1
  | .iface _ d => uptoBulk d + 1
  | .map entries => uptoBulkEntries entries + 1
  | .held _ => 1
def uptoBulkAll {H : Type} : List (DataW H) → Nat
  | [] => 0
  | d :: r => uptoBulk d + uptoBulkAll r
def uptoBulkEntries {H : Type} : List (Lit × DataW H) → Nat
  | [] => 0
  | x :: r => uptoBulkEntry x + uptoBulkEntries r
def uptoBulkEntry {H : Type} : Lit × DataW H → Nat
  | (.string bytes, d) => bytes.length + uptoBulk d + 1
  | (_, d) => uptoBulk d + 1
 end
def uptoSmall : (H : Type) → List (DataW H) → Bool := fun _ ds => decide (uptoBulkAll ds ≤ 1048576)
def OpenSpec.upto (s : _root_.Go.ChangeSpec) : _root_.Go.OpenSpec := { _root_.Go.OpenSpec.ofChange s with cond := some uptoSmall }

/-- 'laws.FnExactIsScheme', WHERE WHAT IT READS IS OF BULK AT MOST 1048576: true; the input reads as it did. -/
def fnExactIsSchemeUptoRow : OpenClaim := { program := "ythoojcmnkhhokaa", sum := "9e161d332c2e64dd1e39ff97b1b60556ff5e7012d137dcf04133f37c074fe97d", func := "loop.example/g01006/laws.FnExactIsScheme", spec := "fnExactIsScheme", apart := false, narrowed := true }
def FnExactIsSchemeUptoSaid : Prop := fnExactIsSchemeUptoRow.holds Try.pinned (OpenSpec.upto fnExactIsSchemeSpec)

/-- 'laws.FnExactPercentOf', WHERE WHAT IT READS IS OF BULK AT MOST 1048576: true; the input reads as it did. -/
def fnExactPercentOfUptoRow : OpenClaim := { program := "ythoojcmnkhhokaa", sum := "9e161d332c2e64dd1e39ff97b1b60556ff5e7012d137dcf04133f37c074fe97d", func := "loop.example/g01006/laws.FnExactPercentOf", spec := "fnExactPercentOf", apart := false, narrowed := true }
def FnExactPercentOfUptoSaid : Prop := fnExactPercentOfUptoRow.holds Try.pinned (OpenSpec.upto fnExactPercentOfSpec)

/-- 'laws.FnExactPointsMissing', WHERE WHAT IT READS IS OF BULK AT MOST 1048576: true; the input reads as it did. -/
def fnExactPointsMissingUptoRow : OpenClaim := { program := "ythoojcmnkhhokaa", sum := "9e161d332c2e64dd1e39ff97b1b60556ff5e7012d137dcf04133f37c074fe97d", func := "loop.example/g01006/laws.FnExactPointsMissing", spec := "fnExactPointsMissing", apart := false, narrowed := true }
def FnExactPointsMissingUptoSaid : Prop := fnExactPointsMissingUptoRow.holds Try.pinned (OpenSpec.upto fnExactPointsMissingSpec)

/-- 'laws.FnExactAreTries', WHERE WHAT IT READS IS OF BULK AT MOST 1048576: true; the input reads as it did. -/
def fnExactAreTriesUptoRow : OpenClaim := { program := "ythoojcmnkhhokaa", sum := "9e161d332c2e64dd1e39ff97b1b60556ff5e7012d137dcf04133f37c074fe97d", func := "loop.example/g01006/laws.FnExactAreTries", spec := "fnExactAreTries", apart := false, narrowed := true }
def FnExactAreTriesUptoSaid : Prop := fnExactAreTriesUptoRow.holds Try.pinned (OpenSpec.upto fnExactAreTriesSpec)

/-- 'laws.FnExactResultOf', WHERE WHAT IT READS IS OF BULK AT MOST 1048576: true; the input reads as it did. -/
def fnExactResultOfUptoRow : OpenClaim := { program := "ythoojcmnkhhokaa", sum := "9e161d332c2e64dd1e39ff97b1b60556ff5e7012d137dcf04133f37c074fe97d", func := "loop.example/g01006/laws.FnExactResultOf", spec := "fnExactResultOf", apart := false, narrowed := true }
def FnExactResultOfUptoSaid : Prop := fnExactResultOfUptoRow.holds Try.pinned (OpenSpec.upto fnExactResultOfSpec)

/-- 'laws.FnExactWeakParts', WHERE WHAT IT READS IS OF BULK AT MOST 1048576: true; the input reads as it did. -/
def fnExactWeakPartsUptoRow : OpenClaim := { program := "ythoojcmnkhhokaa", sum := "9e161d332c2e64dd1e39ff97b1b60556ff5e7012d137dcf04133f37c074fe97d", func := "loop.example/g01006/laws.FnExactWeakParts", spec := "fnExactWeakParts", apart := false, narrowed := true }
def FnExactWeakPartsUptoSaid : Prop := fnExactWeakPartsUptoRow.holds Try.pinned (OpenSpec.upto fnExactWeakPartsSpec)

/-- 'laws.FnExactHardestPart', WHERE WHAT IT READS IS OF BULK AT MOST 1048576: true; the input reads as it did. -/
def fnExactHardestPartUptoRow : OpenClaim := { program := "ythoojcmnkhhokaa", sum := "9e161d332c2e64dd1e39ff97b1b60556ff5e7012d137dcf04133f37c074fe97d", func := "loop.example/g01006/laws.FnExactHardestPart", spec := "fnExactHardestPart", apart := false, narrowed := true }
def FnExactHardestPartUptoSaid : Prop := fnExactHardestPartUptoRow.holds Try.pinned (OpenSpec.upto fnExactHardestPartSpec)

/-- 'laws.FnExactRankTries', WHERE WHAT IT READS IS OF BULK AT MOST 1048576: true; the input reads as it did. -/
def fnExactRankTriesUptoRow : OpenClaim := { program := "ythoojcmnkhhokaa", sum := "9e161d332c2e64dd1e39ff97b1b60556ff5e7012d137dcf04133f37c074fe97d", func := "loop.example/g01006/laws.FnExactRankTries", spec := "fnExactRankTries", apart := false, narrowed := true }
def FnExactRankTriesUptoSaid : Prop := fnExactRankTriesUptoRow.holds Try.pinned (OpenSpec.upto fnExactRankTriesSpec)

/-- 'laws.FnExactCountingTries', WHERE WHAT IT READS IS OF BULK AT MOST 1048576: true; the input reads as it did. -/
def fnExactCountingTriesUptoRow : OpenClaim := { program := "ythoojcmnkhhokaa", sum := "9e161d332c2e64dd1e39ff97b1b60556ff5e7012d137dcf04133f37c074fe97d", func := "loop.example/g01006/laws.FnExactCountingTries", spec := "fnExactCountingTries", apart := false, narrowed := true }
def FnExactCountingTriesUptoSaid : Prop := fnExactCountingTriesUptoRow.holds Try.pinned (OpenSpec.upto fnExactCountingTriesSpec)

/-- 'laws.FnExactGradesOf', WHERE WHAT IT READS IS OF BULK AT MOST 1048576: true; the input reads as it did. -/
def fnExactGradesOfUptoRow : OpenClaim := { program := "ythoojcmnkhhokaa", sum := "9e161d332c2e64dd1e39ff97b1b60556ff5e7012d137dcf04133f37c074fe97d", func := "loop.example/g01006/laws.FnExactGradesOf", spec := "fnExactGradesOf", apart := false, narrowed := true }
def FnExactGradesOfUptoSaid : Prop := fnExactGradesOfUptoRow.holds Try.pinned (OpenSpec.upto fnExactGradesOfSpec)

/-- 'laws.FnTries', WHERE WHAT IT READS IS OF BULK AT MOST 1048576: true; the input reads as it did. -/
def fnTriesUptoRow : OpenClaim := { program := "ythoojcmnkhhokaa", sum := "9e161d332c2e64dd1e39ff97b1b60556ff5e7012d137dcf04133f37c074fe97d", func := "loop.example/g01006/laws.FnTries", spec := "fnTries", apart := false, narrowed := true }
def FnTriesUptoSaid : Prop := fnTriesUptoRow.holds Try.pinned (OpenSpec.upto fnTriesSpec)

/-- 'laws.FnGrades', WHERE WHAT IT READS IS OF BULK AT MOST 1048576: true; the input reads as it did. -/
def fnGradesUptoRow : OpenClaim := { program := "ythoojcmnkhhokaa", sum := "9e161d332c2e64dd1e39ff97b1b60556ff5e7012d137dcf04133f37c074fe97d", func := "loop.example/g01006/laws.FnGrades", spec := "fnGrades", apart := false, narrowed := true }
def FnGradesUptoSaid : Prop := fnGradesUptoRow.holds Try.pinned (OpenSpec.upto fnGradesSpec)

end Rows
end Go.Proofs.Ythoojcmnkhhokaa
