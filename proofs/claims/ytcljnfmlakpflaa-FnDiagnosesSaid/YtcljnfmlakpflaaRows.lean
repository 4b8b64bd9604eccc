/-
  No cell of these rows narrows 'for every input' (looked for: loops, veiled, ifaces, maps, wideKeys, modest, calm, conditions, laid).
  DERIVED. THE GIVEN ROWS OF THIS SEAT. 11 by the template 'for every input the law returns true; each argument reads behind the call as it read before'; 0 by the template 'total and deterministic' (their statements: YtcljnfmlakpflaaTotals.lean).
  GIVEN WITH THE SEED: the statements are not yours to turn. If you find one false, say at which input.
  Laid BY PROGRAM, IN A SANDBOX (cutbox-rows.mjs): the forced cells as the released guide's own fill.sh prints them over the translation 6de31e62f2c7c3e5… (all of the seat's roots in one cut). By AI agents, Wed Nov 11 2026. No macro, syntax, notation, axiom, sorry.
-/
import Derived.Test.YtcljnfmlakpflaaChecked
import GoSem.Claim
import GoSem.ClaimJoined
import GoSem.ClaimMapViews
import Derived.JoinedTies
import Derived.KernelRfl
namespace Go.Proofs.Ytcljnfmlakpflaa
/- THE CELL 'sum', in the pinned program and in every row, IS THE sha256 OF THE DUMP (.gsa) THAT YtcljnfmlakpflaaProg.lean LOADS. Nothing in Lean hashes anything: it is a label: what it is worth is what the hold of that sum in a sandbox is worth. -/
noncomputable def Try.pinned : Pinned := { name := "ytcljnfmlakpflaa", sum := "6de31e62f2c7c3e5e999ee701fe17a226feee990988674e26d3433fdcb0391ae", checked := Try.checked }
namespace Rows
def none {H : Type} : Left H := { results := [], args := [] }

/-- 'laws.FnExactAnswerWith': WHATEVER THE INPUT: true; the input reads as it did. -/
def fnExactAnswerWithSpec : ChangeSpec := { name := "fnExactAnswerWith", fn := fun _ => fun
  | [d1, d2, d3] => { results := [.lit (.bool true)], args := [d1, d2, d3] }
  | _ => none }
def fnExactAnswerWithRow : OpenClaim := { program := "ytcljnfmlakpflaa", sum := "6de31e62f2c7c3e5e999ee701fe17a226feee990988674e26d3433fdcb0391ae", func := "loop.example/g01006/laws.FnExactAnswerWith", spec := "fnExactAnswerWith", apart := false }
def FnExactAnswerWithSaid : Prop := fnExactAnswerWithRow.holds Try.pinned (OpenSpec.ofChange fnExactAnswerWithSpec)

/-- ITS FALSE NEIGHBOUR: 'it returns false'. Refute it at one input. -/
def fnExactAnswerWithWrong : ChangeSpec := { name := "fnExactAnswerWith", fn := fun _ => fun
  | [d1, d2, d3] => { results := [.lit (.bool false)], args := [d1, d2, d3] }
  | _ => none }
def FnExactAnswerWithWrongFalsely : Prop := fnExactAnswerWithRow.holds Try.pinned (OpenSpec.ofChange fnExactAnswerWithWrong)

/-- 'laws.FnExactWrongAnswers': WHATEVER THE INPUT: true; the input reads as it did. -/
def fnExactWrongAnswersSpec : ChangeSpec := { name := "fnExactWrongAnswers", fn := fun _ => fun
  | [d] => { results := [.lit (.bool true)], args := [d] }
  | _ => none }
def fnExactWrongAnswersRow : OpenClaim := { program := "ytcljnfmlakpflaa", sum := "6de31e62f2c7c3e5e999ee701fe17a226feee990988674e26d3433fdcb0391ae", func := "loop.example/g01006/laws.FnExactWrongAnswers", spec := "fnExactWrongAnswers", apart := false }
def FnExactWrongAnswersSaid : Prop := fnExactWrongAnswersRow.holds Try.pinned (OpenSpec.ofChange fnExactWrongAnswersSpec)

/-- ITS FALSE NEIGHBOUR: 'it returns false'. Refute it at one input. -/
def fnExactWrongAnswersWrong : ChangeSpec := { name := "fnExactWrongAnswers", fn := fun _ => fun
  | [d] => { results := [.lit (.bool false)], args := [d] }
  | _ => none }
def FnExactWrongAnswersWrongFalsely : Prop := fnExactWrongAnswersRow.holds Try.pinned (OpenSpec.ofChange fnExactWrongAnswersWrong)

/-- 'laws.FnExactBorrowColumns': WHATEVER THE INPUT: true; the input reads as it did. -/
def fnExactBorrowColumnsSpec : ChangeSpec := { name := "fnExactBorrowColumns", fn := fun _ => fun
  | [d1, d2] => { results := [.lit (.bool true)], args := [d1, d2] }
  | _ => none }
def fnExactBorrowColumnsRow : OpenClaim := { program := "ytcljnfmlakpflaa", sum := "6de31e62f2c7c3e5e999ee701fe17a226feee990988674e26d3433fdcb0391ae", func := "loop.example/g01006/laws.FnExactBorrowColumns", spec := "fnExactBorrowColumns", apart := false }
def FnExactBorrowColumnsSaid : Prop := fnExactBorrowColumnsRow.holds Try.pinned (OpenSpec.ofChange fnExactBorrowColumnsSpec)

/-- ITS FALSE NEIGHBOUR: 'it returns false'. Refute it at one input. -/
def fnExactBorrowColumnsWrong : ChangeSpec := { name := "fnExactBorrowColumns", fn := fun _ => fun
  | [d1, d2] => { results := [.lit (.bool false)], args := [d1, d2] }
  | _ => none }
def FnExactBorrowColumnsWrongFalsely : Prop := fnExactBorrowColumnsRow.holds Try.pinned (OpenSpec.ofChange fnExactBorrowColumnsWrong)

/-- 'laws.FnExactAllAnswers': WHATEVER THE INPUT: true; the input reads as it did. -/
def fnExactAllAnswersSpec : ChangeSpec := { name := "fnExactAllAnswers", fn := fun _ => fun
  | [d1, d2] => { results := [.lit (.bool true)], args := [d1, d2] }
  | _ => none }
def fnExactAllAnswersRow : OpenClaim := { program := "ytcljnfmlakpflaa", sum := "6de31e62f2c7c3e5e999ee701fe17a226feee990988674e26d3433fdcb0391ae", func := "loop.example/g01006/laws.FnExactAllAnswers", spec := "fnExactAllAnswers", apart := false }
def FnExactAllAnswersSaid : Prop := fnExactAllAnswersRow.holds Try.pinned (OpenSpec.ofChange fnExactAllAnswersSpec)

/-- ITS FALSE NEIGHBOUR: 'it returns false'. Refute it at one input. -/
def fnExactAllAnswersWrong : ChangeSpec := { name := "fnExactAllAnswers", fn := fun _ => fun
  | [d1, d2] => { results := [.lit (.bool false)], args := [d1, d2] }
  | _ => none }
def FnExactAllAnswersWrongFalsely : Prop := fnExactAllAnswersRow.holds Try.pinned (OpenSpec.ofChange fnExactAllAnswersWrong)

/-- 'laws.FnExactTellingOf': WHATEVER THE INPUT: true; the input reads as it did. -/
def fnExactTellingOfSpec : ChangeSpec := { name := "fnExactTellingOf", fn := fun _ => fun
  | [d1, d2] => { results := [.lit (.bool true)], args := [d1, d2] }
  | _ => none }
def fnExactTellingOfRow : OpenClaim := { program := "ytcljnfmlakpflaa", sum := "6de31e62f2c7c3e5e999ee701fe17a226feee990988674e26d3433fdcb0391ae", func := "loop.example/g01006/laws.FnExactTellingOf", spec := "fnExactTellingOf", apart := false }
def FnExactTellingOfSaid : Prop := fnExactTellingOfRow.holds Try.pinned (OpenSpec.ofChange fnExactTellingOfSpec)

/-- ITS FALSE NEIGHBOUR: 'it returns false'. Refute it at one input. -/
def fnExactTellingOfWrong : ChangeSpec := { name := "fnExactTellingOf", fn := fun _ => fun
  | [d1, d2] => { results := [.lit (.bool false)], args := [d1, d2] }
  | _ => none }
def FnExactTellingOfWrongFalsely : Prop := fnExactTellingOfRow.holds Try.pinned (OpenSpec.ofChange fnExactTellingOfWrong)

/-- 'laws.FnExactBugsFor': WHATEVER THE INPUT: true; the input reads as it did. -/
def fnExactBugsForSpec : ChangeSpec := { name := "fnExactBugsFor", fn := fun _ => fun
  | [d1, d2, d3] => { results := [.lit (.bool true)], args := [d1, d2, d3] }
  | _ => none }
def fnExactBugsForRow : OpenClaim := { program := "ytcljnfmlakpflaa", sum := "6de31e62f2c7c3e5e999ee701fe17a226feee990988674e26d3433fdcb0391ae", func := "loop.example/g01006/laws.FnExactBugsFor", spec := "fnExactBugsFor", apart := false }
def FnExactBugsForSaid : Prop := fnExactBugsForRow.holds Try.pinned (OpenSpec.ofChange fnExactBugsForSpec)

/-- ITS FALSE NEIGHBOUR: 'it returns false'. Refute it at one input. -/
def fnExactBugsForWrong : ChangeSpec := { name := "fnExactBugsFor", fn := fun _ => fun
  | [d1, d2, d3] => { results := [.lit (.bool false)], args := [d1, d2, d3] }
  | _ => none }
def FnExactBugsForWrongFalsely : Prop := fnExactBugsForRow.holds Try.pinned (OpenSpec.ofChange fnExactBugsForWrong)

/-- 'laws.FnExactBestBug': WHATEVER THE INPUT: true; the input reads as it did. -/
def fnExactBestBugSpec : ChangeSpec := { name := "fnExactBestBug", fn := fun _ => fun
  | [d] => { results := [.lit (.bool true)], args := [d] }
  | _ => none }
def fnExactBestBugRow : OpenClaim := { program := "ytcljnfmlakpflaa", sum := "6de31e62f2c7c3e5e999ee701fe17a226feee990988674e26d3433fdcb0391ae", func := "loop.example/g01006/laws.FnExactBestBug", spec := "fnExactBestBug", apart := false }
def FnExactBestBugSaid : Prop := fnExactBestBugRow.holds Try.pinned (OpenSpec.ofChange fnExactBestBugSpec)

/-- ITS FALSE NEIGHBOUR: 'it returns false'. Refute it at one input. -/
def fnExactBestBugWrong : ChangeSpec := { name := "fnExactBestBug", fn := fun _ => fun
  | [d] => { results := [.lit (.bool false)], args := [d] }
  | _ => none }
def FnExactBestBugWrongFalsely : Prop := fnExactBestBugRow.holds Try.pinned (OpenSpec.ofChange fnExactBestBugWrong)

/-- 'laws.FnExactMostTelling': WHATEVER THE INPUT: true; the input reads as it did. -/
def fnExactMostTellingSpec : ChangeSpec := { name := "fnExactMostTelling", fn := fun _ => fun
  | [d] => { results := [.lit (.bool true)], args := [d] }
  | _ => none }
def fnExactMostTellingRow : OpenClaim := { program := "ytcljnfmlakpflaa", sum := "6de31e62f2c7c3e5e999ee701fe17a226feee990988674e26d3433fdcb0391ae", func := "loop.example/g01006/laws.FnExactMostTelling", spec := "fnExactMostTelling", apart := false }
def FnExactMostTellingSaid : Prop := fnExactMostTellingRow.holds Try.pinned (OpenSpec.ofChange fnExactMostTellingSpec)

/-- ITS FALSE NEIGHBOUR: 'it returns false'. Refute it at one input. -/
def fnExactMostTellingWrong : ChangeSpec := { name := "fnExactMostTelling", fn := fun _ => fun
  | [d] => { results := [.lit (.bool false)], args := [d] }
  | _ => none }
def FnExactMostTellingWrongFalsely : Prop := fnExactMostTellingRow.holds Try.pinned (OpenSpec.ofChange fnExactMostTellingWrong)

/-- 'laws.FnExactBugsForAll': WHATEVER THE INPUT: true; the input reads as it did. -/
def fnExactBugsForAllSpec : ChangeSpec := { name := "fnExactBugsForAll", fn := fun _ => fun
  | [d] => { results := [.lit (.bool true)], args := [d] }
  | _ => none }
def fnExactBugsForAllRow : OpenClaim := { program := "ytcljnfmlakpflaa", sum := "6de31e62f2c7c3e5e999ee701fe17a226feee990988674e26d3433fdcb0391ae", func := "loop.example/g01006/laws.FnExactBugsForAll", spec := "fnExactBugsForAll", apart := false }
def FnExactBugsForAllSaid : Prop := fnExactBugsForAllRow.holds Try.pinned (OpenSpec.ofChange fnExactBugsForAllSpec)

/-- ITS FALSE NEIGHBOUR: 'it returns false'. Refute it at one input. -/
def fnExactBugsForAllWrong : ChangeSpec := { name := "fnExactBugsForAll", fn := fun _ => fun
  | [d] => { results := [.lit (.bool false)], args := [d] }
  | _ => none }
def FnExactBugsForAllWrongFalsely : Prop := fnExactBugsForAllRow.holds Try.pinned (OpenSpec.ofChange fnExactBugsForAllWrong)

/-- 'laws.FnBugs': WHATEVER THE INPUT: true; the input reads as it did. -/
def fnBugsSpec : ChangeSpec := { name := "fnBugs", fn := fun _ => fun
  | [d] => { results := [.lit (.bool true)], args := [d] }
  | _ => none }
def fnBugsRow : OpenClaim := { program := "ytcljnfmlakpflaa", sum := "6de31e62f2c7c3e5e999ee701fe17a226feee990988674e26d3433fdcb0391ae", func := "loop.example/g01006/laws.FnBugs", spec := "fnBugs", apart := false }
def FnBugsSaid : Prop := fnBugsRow.holds Try.pinned (OpenSpec.ofChange fnBugsSpec)

/-- ITS FALSE NEIGHBOUR: 'it returns false'. Refute it at one input. -/
def fnBugsWrong : ChangeSpec := { name := "fnBugs", fn := fun _ => fun
  | [d] => { results := [.lit (.bool false)], args := [d] }
  | _ => none }
def FnBugsWrongFalsely : Prop := fnBugsRow.holds Try.pinned (OpenSpec.ofChange fnBugsWrong)

/-- 'laws.FnDiagnoses': WHATEVER THE INPUT: true; the input reads as it did. -/
def fnDiagnosesSpec : ChangeSpec := { name := "fnDiagnoses", fn := fun _ => fun
  | [d] => { results := [.lit (.bool true)], args := [d] }
  | _ => none }
def fnDiagnosesRow : OpenClaim := { program := "ytcljnfmlakpflaa", sum := "6de31e62f2c7c3e5e999ee701fe17a226feee990988674e26d3433fdcb0391ae", func := "loop.example/g01006/laws.FnDiagnoses", spec := "fnDiagnoses", apart := false }
def FnDiagnosesSaid : Prop := fnDiagnosesRow.holds Try.pinned (OpenSpec.ofChange fnDiagnosesSpec)

/-- ITS FALSE NEIGHBOUR: 'it returns false'. Refute it at one input. -/
def fnDiagnosesWrong : ChangeSpec := { name := "fnDiagnoses", fn := fun _ => fun
  | [d] => { results := [.lit (.bool false)], args := [d] }
  | _ => none }
def FnDiagnosesWrongFalsely : Prop := fnDiagnosesRow.holds Try.pinned (OpenSpec.ofChange fnDiagnosesWrong)

/- THE SECOND FORM. 'bulk': how many values and letters a reading holds, each counted each time it is reached (what is shared counts as often as it is met; a slice's spare places count too). A statement '..UptoSaid' is the law's where the arguments, and the package variables that the reading takes, are together of bulk at most 1048576: NARROWER than '..Said'. Prove '..Said' where nothing that the law and all that it calls make is longer than what came in: it says more and counts as full. Else prove '..UptoSaid'. A law counts once. -/
mutual
def uptoBulk {H : Type} : DataW H → Nat
  | .lit (.string bytes) => bytes.length + 1
  | .lit _ => 1
  | .nil => 1
  | .ptr d => uptoBulk d + 1
  | .slice elems spare => uptoBulkAll elems + uptoBulkAll spare + 1
  | .agg parts => uptoBulkAll parts + 1
  | .iface _ d => uptoBulk d + 1
  | .map entries => uptoBulkEntries entries + 1
  | .held _ => 1
def uptoBulkAll {H : Type} : List (DataW H) → Nat
  | [] => 0
  | d :: r => uptoBulk d + uptoBulkAll r
def uptoBulkEntries {H : Type} : List (Lit × DataW H) → Nat
  | [] => 0
  | x :: r => uptoBulkEntry x + uptoBulkEntries r
def uptoBulkEntry {H : Type} : Lit × DataW H → Nat
  | (.string bytes, d) => bytes.length + uptoBulk d + 1
  | (_, d) => uptoBulk d + 1
 end
def uptoSmall : (H : Type) → List (DataW H) → Bool := fun _ ds => decide (uptoBulkAll ds ≤ 1048576)
def OpenSpec.upto (s : _root_.Go.ChangeSpec) : _root_.Go.OpenSpec := { _root_.Go.OpenSpec.ofChange s with cond := some uptoSmall }

/-- 'laws.FnExactAnswerWith', WHERE WHAT IT READS IS OF BULK AT MOST 1048576: true; the input reads as it did. -/
def fnExactAnswerWithUptoRow : OpenClaim := { program := "ytcljnfmlakpflaa", sum := "6de31e62f2c7c3e5e999ee701fe17a226feee990988674e26d3433fdcb0391ae", func := "loop.example/g01006/laws.FnExactAnswerWith", spec := "fnExactAnswerWith", apart := false, narrowed := true }
def FnExactAnswerWithUptoSaid : Prop := fnExactAnswerWithUptoRow.holds Try.pinned (OpenSpec.upto fnExactAnswerWithSpec)

/-- 'laws.FnExactWrongAnswers', WHERE WHAT IT READS IS OF BULK AT MOST 1048576: true; the input reads as it did. -/
def fnExactWrongAnswersUptoRow : OpenClaim := { program := "ytcljnfmlakpflaa", sum := "6de31e62f2c7c3e5e999ee701fe17a226feee990988674e26d3433fdcb0391ae", func := "loop.example/g01006/laws.FnExactWrongAnswers", spec := "fnExactWrongAnswers", apart := false, narrowed := true }
def FnExactWrongAnswersUptoSaid : Prop := fnExactWrongAnswersUptoRow.holds Try.pinned (OpenSpec.upto fnExactWrongAnswersSpec)

/-- 'laws.FnExactBorrowColumns', WHERE WHAT IT READS IS OF BULK AT MOST 1048576: true; the input reads as it did. -/
def fnExactBorrowColumnsUptoRow : OpenClaim := { program := "ytcljnfmlakpflaa", sum := "6de31e62f2c7c3e5e999ee701fe17a226feee990988674e26d3433fdcb0391ae", func := "loop.example/g01006/laws.FnExactBorrowColumns", spec := "fnExactBorrowColumns", apart := false, narrowed := true }
def FnExactBorrowColumnsUptoSaid : Prop := fnExactBorrowColumnsUptoRow.holds Try.pinned (OpenSpec.upto fnExactBorrowColumnsSpec)

/-- 'laws.FnExactAllAnswers', WHERE WHAT IT READS IS OF BULK AT MOST 1048576: true; the input reads as it did. -/
def fnExactAllAnswersUptoRow : OpenClaim := { program := "ytcljnfmlakpflaa", sum := "6de31e62f2c7c3e5e999ee701fe17a226feee990988674e26d3433fdcb0391ae", func := "loop.example/g01006/laws.FnExactAllAnswers", spec := "fnExactAllAnswers", apart := false, narrowed := true }
def FnExactAllAnswersUptoSaid : Prop := fnExactAllAnswersUptoRow.holds Try.pinned (OpenSpec.upto fnExactAllAnswersSpec)

/-- 'laws.FnExactTellingOf', WHERE WHAT IT READS IS OF BULK AT MOST 1048576: true; the input reads as it did. -/
def fnExactTellingOfUptoRow : OpenClaim := { program := "ytcljnfmlakpflaa", sum := "6de31e62f2c7c3e5e999ee701fe17a226feee990988674e26d3433fdcb0391ae", func := "loop.example/g01006/laws.FnExactTellingOf", spec := "fnExactTellingOf", apart := false, narrowed := true }
def FnExactTellingOfUptoSaid : Prop := fnExactTellingOfUptoRow.holds Try.pinned (OpenSpec.upto fnExactTellingOfSpec)

/-- 'laws.FnExactBugsFor', WHERE WHAT IT READS IS OF BULK AT MOST 1048576: true; the input reads as it did. -/
def fnExactBugsForUptoRow : OpenClaim := { program := "ytcljnfmlakpflaa", sum := "6de31e62f2c7c3e5e999ee701fe17a226feee990988674e26d3433fdcb0391ae", func := "loop.example/g01006/laws.FnExactBugsFor", spec := "fnExactBugsFor", apart := false, narrowed := true }
def FnExactBugsForUptoSaid : Prop := fnExactBugsForUptoRow.holds Try.pinned (OpenSpec.upto fnExactBugsForSpec)

/-- 'laws.FnExactBestBug', WHERE WHAT IT READS IS OF BULK AT MOST 1048576: true; the input reads as it did. -/
def fnExactBestBugUptoRow : OpenClaim := { program := "ytcljnfmlakpflaa", sum := "6de31e62f2c7c3e5e999ee701fe17a226feee990988674e26d3433fdcb0391ae", func := "loop.example/g01006/laws.FnExactBestBug", spec := "fnExactBestBug", apart := false, narrowed := true }
def FnExactBestBugUptoSaid : Prop := fnExactBestBugUptoRow.holds Try.pinned (OpenSpec.upto fnExactBestBugSpec)

/-- 'laws.FnExactMostTelling', WHERE WHAT IT READS IS OF BULK AT MOST 1048576: true; the input reads as it did. -/
def fnExactMostTellingUptoRow : OpenClaim := { program := "ytcljnfmlakpflaa", sum := "6de31e62f2c7c3e5e999ee701fe17a226feee990988674e26d3433fdcb0391ae", func := "loop.example/g01006/laws.FnExactMostTelling", spec := "fnExactMostTelling", apart := false, narrowed := true }
def FnExactMostTellingUptoSaid : Prop := fnExactMostTellingUptoRow.holds Try.pinned (OpenSpec.upto fnExactMostTellingSpec)

/-- 'laws.FnExactBugsForAll', WHERE WHAT IT READS IS OF BULK AT MOST 1048576: true; the input reads as it did. -/
def fnExactBugsForAllUptoRow : OpenClaim := { program := "ytcljnfmlakpflaa", sum := "6de31e62f2c7c3e5e999ee701fe17a226feee990988674e26d3433fdcb0391ae", func := "loop.example/g01006/laws.FnExactBugsForAll", spec := "fnExactBugsForAll", apart := false, narrowed := true }
def FnExactBugsForAllUptoSaid : Prop := fnExactBugsForAllUptoRow.holds Try.pinned (OpenSpec.upto fnExactBugsForAllSpec)

/-- 'laws.FnBugs', WHERE WHAT IT READS IS OF BULK AT MOST 1048576: true; the input reads as it did. -/
def fnBugsUptoRow : OpenClaim := { program := "ytcljnfmlakpflaa", sum := "6de31e62f2c7c3e5e999ee701fe17a226feee990988674e26d3433fdcb0391ae", func := "loop.example/g01006/laws.FnBugs", spec := "fnBugs", apart := false, narrowed := true }
def FnBugsUptoSaid : Prop := fnBugsUptoRow.holds Try.pinned (OpenSpec.upto fnBugsSpec)

/-- 'laws.FnDiagnoses', WHERE WHAT IT READS IS OF BULK AT MOST 1048576: true; the input reads as it did. -/
def fnDiagnosesUptoRow : OpenClaim := { program := "ytcljnfmlakpflaa", sum := "6de31e62f2c7c3e5e999ee701fe17a226feee990988674e26d3433fdcb0391ae", func := "loop.example/g01006/laws.FnDiagnoses", spec := "fnDiagnoses", apart := false, narrowed := true }
def FnDiagnosesUptoSaid : Prop := fnDiagnosesUptoRow.holds Try.pinned (OpenSpec.upto fnDiagnosesSpec)

end Rows
end Go.Proofs.Ytcljnfmlakpflaa
