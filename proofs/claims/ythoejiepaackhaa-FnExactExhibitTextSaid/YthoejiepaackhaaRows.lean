/-
  No cell of these rows narrows 'for every input' (looked for: loops, veiled, ifaces, maps, wideKeys, modest, calm, conditions, laid).
  DERIVED. THE GIVEN ROWS OF THIS SEAT. 9 by the template 'for every input the law returns true; each argument reads behind the call as it read before'; 0 by the template 'total and deterministic' (their statements: YthoejiepaackhaaTotals.lean).
  GIVEN WITH THE SEED: the statements are not yours to turn. If you find one false, say at which input.
  Laid BY PROGRAM, IN A SANDBOX (cutbox-rows.mjs): the forced cells as the released guide's own fill.sh prints them over the translation b60f72abcb087875… (all of the seat's roots in one cut). By AI agents, Wed Nov 11 2026. No macro, syntax, notation, axiom, sorry.
-/
import Derived.Test.YthoejiepaackhaaChecked
import GoSem.Claim
import GoSem.ClaimJoined
import GoSem.ClaimMapViews
import Derived.JoinedTies
import Derived.KernelRfl
namespace Go.Proofs.Ythoejiepaackhaa
/- THE CELL 'sum', in the pinned program and in every row, IS THE sha256 OF THE DUMP (.gsa) THAT YthoejiepaackhaaProg.lean LOADS. Nothing in Lean hashes anything: it is a label: what it is worth is what the hold of that sum in a sandbox is worth. -/
noncomputable def Try.pinned : Pinned := { name := "ythoejiepaackhaa", sum := "b60f72abcb087875244375641b8e298f38897932c4481ee50c4c6f6c1429119c", checked := Try.checked }
namespace Rows
def none {H : Type} : Left H := { results := [], args := [] }

/-- 'laws.FnExactIsExhibit': WHATEVER THE INPUT: true; the input reads as it did. -/
def fnExactIsExhibitSpec : ChangeSpec := { name := "fnExactIsExhibit", fn := fun _ => fun
  | [d] => { results := [.lit (.bool true)], args := [d] }
  | _ => none }
def fnExactIsExhibitRow : OpenClaim := { program := "ythoejiepaackhaa", sum := "b60f72abcb087875244375641b8e298f38897932c4481ee50c4c6f6c1429119c", func := "loop.example/g01006/laws.FnExactIsExhibit", spec := "fnExactIsExhibit", apart := false }
def FnExactIsExhibitSaid : Prop := fnExactIsExhibitRow.holds Try.pinned (OpenSpec.ofChange fnExactIsExhibitSpec)

/-- ITS FALSE NEIGHBOUR: 'it returns false'. Refute it at one input. -/
def fnExactIsExhibitWrong : ChangeSpec := { name := "fnExactIsExhibit", fn := fun _ => fun
  | [d] => { results := [.lit (.bool false)], args := [d] }
  | _ => none }
def FnExactIsExhibitWrongFalsely : Prop := fnExactIsExhibitRow.holds Try.pinned (OpenSpec.ofChange fnExactIsExhibitWrong)

/-- 'laws.FnExactGreatestShown': WHATEVER THE INPUT: true; the input reads as it did. -/
def fnExactGreatestShownSpec : ChangeSpec := { name := "fnExactGreatestShown", fn := fun _ => fun
  | [d] => { results := [.lit (.bool true)], args := [d] }
  | _ => none }
def fnExactGreatestShownRow : OpenClaim := { program := "ythoejiepaackhaa", sum := "b60f72abcb087875244375641b8e298f38897932c4481ee50c4c6f6c1429119c", func := "loop.example/g01006/laws.FnExactGreatestShown", spec := "fnExactGreatestShown", apart := false }
def FnExactGreatestShownSaid : Prop := fnExactGreatestShownRow.holds Try.pinned (OpenSpec.ofChange fnExactGreatestShownSpec)

/-- ITS FALSE NEIGHBOUR: 'it returns false'. Refute it at one input. -/
def fnExactGreatestShownWrong : ChangeSpec := { name := "fnExactGreatestShown", fn := fun _ => fun
  | [d] => { results := [.lit (.bool false)], args := [d] }
  | _ => none }
def FnExactGreatestShownWrongFalsely : Prop := fnExactGreatestShownRow.holds Try.pinned (OpenSpec.ofChange fnExactGreatestShownWrong)

/-- 'laws.FnExactExhibitText': WHATEVER THE INPUT: true; the input reads as it did. -/
def fnExactExhibitTextSpec : ChangeSpec := { name := "fnExactExhibitText", fn := fun _ => fun
  | [d] => { results := [.lit (.bool true)], args := [d] }
  | _ => none }
def fnExactExhibitTextRow : OpenClaim := { program := "ythoejiepaackhaa", sum := "b60f72abcb087875244375641b8e298f38897932c4481ee50c4c6f6c1429119c", func := "loop.example/g01006/laws.FnExactExhibitText", spec := "fnExactExhibitText", recurses := true, apart := false }
def FnExactExhibitTextSaid : Prop := fnExactExhibitTextRow.holds Try.pinned (OpenSpec.ofChange fnExactExhibitTextSpec)

/-- ITS FALSE NEIGHBOUR: 'it returns false'. Refute it at one input. -/
def fnExactExhibitTextWrong : ChangeSpec := { name := "fnExactExhibitText", fn := fun _ => fun
  | [d] => { results := [.lit (.bool false)], args := [d] }
  | _ => none }
def FnExactExhibitTextWrongFalsely : Prop := fnExactExhibitTextRow.holds Try.pinned (OpenSpec.ofChange fnExactExhibitTextWrong)

/-- 'laws.FnExactAreExhibits': WHATEVER THE INPUT: true; the input reads as it did. -/
def fnExactAreExhibitsSpec : ChangeSpec := { name := "fnExactAreExhibits", fn := fun _ => fun
  | [d] => { results := [.lit (.bool true)], args := [d] }
  | _ => none }
def fnExactAreExhibitsRow : OpenClaim := { program := "ythoejiepaackhaa", sum := "b60f72abcb087875244375641b8e298f38897932c4481ee50c4c6f6c1429119c", func := "loop.example/g01006/laws.FnExactAreExhibits", spec := "fnExactAreExhibits", apart := false }
def FnExactAreExhibitsSaid : Prop := fnExactAreExhibitsRow.holds Try.pinned (OpenSpec.ofChange fnExactAreExhibitsSpec)

/-- ITS FALSE NEIGHBOUR: 'it returns false'. Refute it at one input. -/
def fnExactAreExhibitsWrong : ChangeSpec := { name := "fnExactAreExhibits", fn := fun _ => fun
  | [d] => { results := [.lit (.bool false)], args := [d] }
  | _ => none }
def FnExactAreExhibitsWrongFalsely : Prop := fnExactAreExhibitsRow.holds Try.pinned (OpenSpec.ofChange fnExactAreExhibitsWrong)

/-- 'laws.FnExactBeadsShown': WHATEVER THE INPUT: true; the input reads as it did. -/
def fnExactBeadsShownSpec : ChangeSpec := { name := "fnExactBeadsShown", fn := fun _ => fun
  | [d] => { results := [.lit (.bool true)], args := [d] }
  | _ => none }
def fnExactBeadsShownRow : OpenClaim := { program := "ythoejiepaackhaa", sum := "b60f72abcb087875244375641b8e298f38897932c4481ee50c4c6f6c1429119c", func := "loop.example/g01006/laws.FnExactBeadsShown", spec := "fnExactBeadsShown", apart := false }
def FnExactBeadsShownSaid : Prop := fnExactBeadsShownRow.holds Try.pinned (OpenSpec.ofChange fnExactBeadsShownSpec)

/-- ITS FALSE NEIGHBOUR: 'it returns false'. Refute it at one input. -/
def fnExactBeadsShownWrong : ChangeSpec := { name := "fnExactBeadsShown", fn := fun _ => fun
  | [d] => { results := [.lit (.bool false)], args := [d] }
  | _ => none }
def FnExactBeadsShownWrongFalsely : Prop := fnExactBeadsShownRow.holds Try.pinned (OpenSpec.ofChange fnExactBeadsShownWrong)

/-- 'laws.FnExactOldestIn': WHATEVER THE INPUT: true; the input reads as it did. -/
def fnExactOldestInSpec : ChangeSpec := { name := "fnExactOldestIn", fn := fun _ => fun
  | [d1, d2] => { results := [.lit (.bool true)], args := [d1, d2] }
  | _ => none }
def fnExactOldestInRow : OpenClaim := { program := "ythoejiepaackhaa", sum := "b60f72abcb087875244375641b8e298f38897932c4481ee50c4c6f6c1429119c", func := "loop.example/g01006/laws.FnExactOldestIn", spec := "fnExactOldestIn", apart := false }
def FnExactOldestInSaid : Prop := fnExactOldestInRow.holds Try.pinned (OpenSpec.ofChange fnExactOldestInSpec)

/-- ITS FALSE NEIGHBOUR: 'it returns false'. Refute it at one input. -/
def fnExactOldestInWrong : ChangeSpec := { name := "fnExactOldestIn", fn := fun _ => fun
  | [d1, d2] => { results := [.lit (.bool false)], args := [d1, d2] }
  | _ => none }
def FnExactOldestInWrongFalsely : Prop := fnExactOldestInRow.holds Try.pinned (OpenSpec.ofChange fnExactOldestInWrong)

/-- 'laws.FnExactCaseLoad': WHATEVER THE INPUT: true; the input reads as it did. -/
def fnExactCaseLoadSpec : ChangeSpec := { name := "fnExactCaseLoad", fn := fun _ => fun
  | [d] => { results := [.lit (.bool true)], args := [d] }
  | _ => none }
def fnExactCaseLoadRow : OpenClaim := { program := "ythoejiepaackhaa", sum := "b60f72abcb087875244375641b8e298f38897932c4481ee50c4c6f6c1429119c", func := "loop.example/g01006/laws.FnExactCaseLoad", spec := "fnExactCaseLoad", apart := false }
def FnExactCaseLoadSaid : Prop := fnExactCaseLoadRow.holds Try.pinned (OpenSpec.ofChange fnExactCaseLoadSpec)

/-- ITS FALSE NEIGHBOUR: 'it returns false'. Refute it at one input. -/
def fnExactCaseLoadWrong : ChangeSpec := { name := "fnExactCaseLoad", fn := fun _ => fun
  | [d] => { results := [.lit (.bool false)], args := [d] }
  | _ => none }
def FnExactCaseLoadWrongFalsely : Prop := fnExactCaseLoadRow.holds Try.pinned (OpenSpec.ofChange fnExactCaseLoadWrong)

/-- 'laws.FnExactMoveExhibit': WHATEVER THE INPUT: true; the input reads as it did. -/
def fnExactMoveExhibitSpec : ChangeSpec := { name := "fnExactMoveExhibit", fn := fun _ => fun
  | [d1, d2, d3] => { results := [.lit (.bool true)], args := [d1, d2, d3] }
  | _ => none }
def fnExactMoveExhibitRow : OpenClaim := { program := "ythoejiepaackhaa", sum := "b60f72abcb087875244375641b8e298f38897932c4481ee50c4c6f6c1429119c", func := "loop.example/g01006/laws.FnExactMoveExhibit", spec := "fnExactMoveExhibit", apart := false }
def FnExactMoveExhibitSaid : Prop := fnExactMoveExhibitRow.holds Try.pinned (OpenSpec.ofChange fnExactMoveExhibitSpec)

/-- ITS FALSE NEIGHBOUR: 'it returns false'. Refute it at one input. -/
def fnExactMoveExhibitWrong : ChangeSpec := { name := "fnExactMoveExhibit", fn := fun _ => fun
  | [d1, d2, d3] => { results := [.lit (.bool false)], args := [d1, d2, d3] }
  | _ => none }
def FnExactMoveExhibitWrongFalsely : Prop := fnExactMoveExhibitRow.holds Try.pinned (OpenSpec.ofChange fnExactMoveExhibitWrong)

/-- 'laws.FnExactShowOne': WHATEVER THE INPUT: true; the input reads as it did. -/
def fnExactShowOneSpec : ChangeSpec := { name := "fnExactShowOne", fn := fun _ => fun
  | [d1, d2] => { results := [.lit (.bool true)], args := [d1, d2] }
  | _ => none }
def fnExactShowOneRow : OpenClaim := { program := "ythoejiepaackhaa", sum := "b60f72abcb087875244375641b8e298f38897932c4481ee50c4c6f6c1429119c", func := "loop.example/g01006/laws.FnExactShowOne", spec := "fnExactShowOne", apart := false }
def FnExactShowOneSaid : Prop := fnExactShowOneRow.holds Try.pinned (OpenSpec.ofChange fnExactShowOneSpec)

/-- ITS FALSE NEIGHBOUR: 'it returns false'. Refute it at one input. -/
def fnExactShowOneWrong : ChangeSpec := { name := "fnExactShowOne", fn := fun _ => fun
  | [d1, d2] => { results := [.lit (.bool false)], args := [d1, d2] }
  | _ => none }
def FnExactShowOneWrongFalsely : Prop := fnExactShowOneRow.holds Try.pinned (OpenSpec.ofChange fnExactShowOneWrong)

/- THE SECOND FORM. 'bulk': how many values and letters a reading holds, each counted each time it is reached (what is shared counts as often as it is met; a slice's spare places count too). A statement '..UptoSaid' is the law's where the arguments, and the package variables that the reading takes, are together of bulk at most 1048576: NARROWER than '..Said'. Prove '..Said' where nothing that the law and all that it calls make is longer than what came in: it says more and counts as full. Else prove '..UptoSaid'. A law counts once. -/
mutual
def uptoBulk {H : Type} : DataW H → Nat
  | .lit (.string bytes) => bytes.length + 1
  | .lit _ => 1
  | .nil => 1
  | .ptr d => uptoBulk d + 1
  | .slice elems spare => uptoBulkAll elems + uptoBulkAll spare + 1
  | .agg parts => uptoBulkAll parts + 1
  | .iface _ d => uptoBulk d + 1
  | .map entries => uptoBulkEntries entries + 1
  | .held _ => 1
def uptoBulkAll {H : Type} : List (DataW H) → Nat
  | [] => 0
  | d :: r => uptoBulk d + uptoBulkAll r
def uptoBulkEntries {H : Type} : List (Lit × DataW H) → Nat
  | [] => 0
  | x :: r => uptoBulkEntry x + uptoBulkEntries r
def uptoBulkEntry {H : Type} : Lit × DataW H → Nat
  | (.string bytes, d) => bytes.length + uptoBulk d + 1
  | (_, d) => uptoBulk d + 1
 end
def uptoSmall : (H : Type) → List (DataW H) → Bool := fun _ ds => decide (uptoBulkAll ds ≤ 1048576)
def OpenSpec.upto (s : _root_.Go.ChangeSpec) : _root_.Go.OpenSpec := { _root_.Go.OpenSpec.ofChange s with cond := some uptoSmall }

/-- 'laws.FnExactIsExhibit', WHERE WHAT IT READS IS OF BULK AT MOST 1048576: true; the input reads as it did. -/
def fnExactIsExhibitUptoRow : OpenClaim := { program := "ythoejiepaackhaa", sum := "b60f72abcb087875244375641b8e298f38897932c4481ee50c4c6f6c1429119c", func := "loop.example/g01006/laws.FnExactIsExhibit", spec := "fnExactIsExhibit", apart := false, narrowed := true }
def FnExactIsExhibitUptoSaid : Prop := fnExactIsExhibitUptoRow.holds Try.pinned (OpenSpec.upto fnExactIsExhibitSpec)

/-- 'laws.FnExactGreatestShown', WHERE WHAT IT READS IS OF BULK AT MOST 1048576: true; the input reads as it did. -/
def fnExactGreatestShownUptoRow : OpenClaim := { program := "ythoejiepaackhaa", sum := "b60f72abcb087875244375641b8e298f38897932c4481ee50c4c6f6c1429119c", func := "loop.example/g01006/laws.FnExactGreatestShown", spec := "fnExactGreatestShown", apart := false, narrowed := true }
def FnExactGreatestShownUptoSaid : Prop := fnExactGreatestShownUptoRow.holds Try.pinned (OpenSpec.upto fnExactGreatestShownSpec)

/-- 'laws.FnExactExhibitText', WHERE WHAT IT READS IS OF BULK AT MOST 1048576: true; the input reads as it did. -/
def fnExactExhibitTextUptoRow : OpenClaim := { program := "ythoejiepaackhaa", sum := "b60f72abcb087875244375641b8e298f38897932c4481ee50c4c6f6c1429119c", func := "loop.example/g01006/laws.FnExactExhibitText", spec := "fnExactExhibitText", recurses := true, apart := false, narrowed := true }
def FnExactExhibitTextUptoSaid : Prop := fnExactExhibitTextUptoRow.holds Try.pinned (OpenSpec.upto fnExactExhibitTextSpec)

/-- 'laws.FnExactAreExhibits', WHERE WHAT IT READS IS OF BULK AT MOST 1048576: true; the input reads as it did. -/
def fnExactAreExhibitsUptoRow : OpenClaim := { program := "ythoejiepaackhaa", sum := "b60f72abcb087875244375641b8e298f38897932c4481ee50c4c6f6c1429119c", func := "loop.example/g01006/laws.FnExactAreExhibits", spec := "fnExactAreExhibits", apart := false, narrowed := true }
def FnExactAreExhibitsUptoSaid : Prop := fnExactAreExhibitsUptoRow.holds Try.pinned (OpenSpec.upto fnExactAreExhibitsSpec)

/-- 'laws.FnExactBeadsShown', WHERE WHAT IT READS IS OF BULK AT MOST 1048576: true; the input reads as it did. -/
def fnExactBeadsShownUptoRow : OpenClaim := { program := "ythoejiepaackhaa", sum := "b60f72abcb087875244375641b8e298f38897932c4481ee50c4c6f6c1429119c", func := "loop.example/g01006/laws.FnExactBeadsShown", spec := "fnExactBeadsShown", apart := false, narrowed := true }
def FnExactBeadsShownUptoSaid : Prop := fnExactBeadsShownUptoRow.holds Try.pinned (OpenSpec.upto fnExactBeadsShownSpec)

/-- 'laws.FnExactOldestIn', WHERE WHAT IT READS IS OF BULK AT MOST 1048576: true; the input reads as it did. -/
def fnExactOldestInUptoRow : OpenClaim := { program := "ythoejiepaackhaa", sum := "b60f72abcb087875244375641b8e298f38897932c4481ee50c4c6f6c1429119c", func := "loop.example/g01006/laws.FnExactOldestIn", spec := "fnExactOldestIn", apart := false, narrowed := true }
def FnExactOldestInUptoSaid : Prop := fnExactOldestInUptoRow.holds Try.pinned (OpenSpec.upto fnExactOldestInSpec)

/-- 'laws.FnExactCaseLoad', WHERE WHAT IT READS IS OF BULK AT MOST 1048576: true; the input reads as it did. -/
def fnExactCaseLoadUptoRow : OpenClaim := { program := "ythoejiepaackhaa", sum := "b60f72abcb087875244375641b8e298f38897932c4481ee50c4c6f6c1429119c", func := "loop.example/g01006/laws.FnExactCaseLoad", spec := "fnExactCaseLoad", apart := false, narrowed := true }
def FnExactCaseLoadUptoSaid : Prop := fnExactCaseLoadUptoRow.holds Try.pinned (OpenSpec.upto fnExactCaseLoadSpec)

/-- 'laws.FnExactMoveExhibit', WHERE WHAT IT READS IS OF BULK AT MOST 1048576: true; the input reads as it did. -/
def fnExactMoveExhibitUptoRow : OpenClaim := { program := "ythoejiepaackhaa", sum := "b60f72abcb087875244375641b8e298f38897932c4481ee50c4c6f6c1429119c", func := "loop.example/g01006/laws.FnExactMoveExhibit", spec := "fnExactMoveExhibit", apart := false, narrowed := true }
def FnExactMoveExhibitUptoSaid : Prop := fnExactMoveExhibitUptoRow.holds Try.pinned (OpenSpec.upto fnExactMoveExhibitSpec)

/-- 'laws.FnExactShowOne', WHERE WHAT IT READS IS OF BULK AT MOST 1048576: true; the input reads as it did. -/
def fnExactShowOneUptoRow : OpenClaim := { program := "ythoejiepaackhaa", sum := "b60f72abcb087875244375641b8e298f38897932c4481ee50c4c6f6c1429119c", func := "loop.example/g01006/laws.FnExactShowOne", spec := "fnExactShowOne", apart := false, narrowed := true }
def FnExactShowOneUptoSaid : Prop := fnExactShowOneUptoRow.holds Try.pinned (OpenSpec.upto fnExactShowOneSpec)

end Rows
end Go.Proofs.Ythoejiepaackhaa
