/-
  No cell of these rows narrows 'for every input' (looked for: loops, veiled, ifaces, maps, wideKeys, modest, calm, conditions, laid).
  DERIVED. THE GIVEN ROWS OF THIS SEAT. 8 by the template 'for every input the law returns true; each argument reads behind the call as it read before'; 0 by the template 'total and deterministic' (their statements: YtkcbldaondflmaaTotals.lean).
  GIVEN WITH THE SEED: the statements are not yours to turn. If you find one false, say at which input.
  Laid BY PROGRAM, IN A SANDBOX (cutbox-rows.mjs): the forced cells as the released guide's own fill.sh prints them over the translation 86e1249060a46559… (all of the seat's roots in one cut). By AI agents, Wed Nov 11 2026. No macro, syntax, notation, axiom, sorry.
-/
import Derived.Test.YtkcbldaondflmaaChecked
import GoSem.Claim
import GoSem.ClaimJoined
import GoSem.ClaimMapViews
import Derived.JoinedTies
import Derived.KernelRfl
namespace Go.Proofs.Ytkcbldaondflmaa
/- THE CELL 'sum', in the pinned program and in every row, IS THE sha256 OF THE DUMP (.gsa) THAT YtkcbldaondflmaaProg.lean LOADS. Nothing in Lean hashes anything: it is a label: what it is worth is what the hold of that sum in a sandbox is worth. -/
noncomputable def Try.pinned : Pinned := { name := "ytkcbldaondflmaa", sum := "86e1249060a465593996881d3c156988e74e3f68adbf4458de1a9c4a5940a1b7", checked := Try.checked }
namespace Rows
def none {H : Type} : Left H := { results := [], args := [] }

/-- 'laws.FnExactRightAtFirst': WHATEVER THE INPUT: true; the input reads as it did. -/
def fnExactRightAtFirstSpec : ChangeSpec := { name := "fnExactRightAtFirst", fn := fun _ => fun
  | [d1, d2] => { results := [.lit (.bool true)], args := [d1, d2] }
  | _ => none }
def fnExactRightAtFirstRow : OpenClaim := { program := "ytkcbldaondflmaa", sum := "86e1249060a465593996881d3c156988e74e3f68adbf4458de1a9c4a5940a1b7", func := "loop.example/g01006/laws.FnExactRightAtFirst", spec := "fnExactRightAtFirst", apart := false }
def FnExactRightAtFirstSaid : Prop := fnExactRightAtFirstRow.holds Try.pinned (OpenSpec.ofChange fnExactRightAtFirstSpec)

/-- ITS FALSE NEIGHBOUR: 'it returns false'. Refute it at one input. -/
def fnExactRightAtFirstWrong : ChangeSpec := { name := "fnExactRightAtFirst", fn := fun _ => fun
  | [d1, d2] => { results := [.lit (.bool false)], args := [d1, d2] }
  | _ => none }
def FnExactRightAtFirstWrongFalsely : Prop := fnExactRightAtFirstRow.holds Try.pinned (OpenSpec.ofChange fnExactRightAtFirstWrong)

/-- 'laws.FnExactKeptMoves': WHATEVER THE INPUT: true; the input reads as it did. -/
def fnExactKeptMovesSpec : ChangeSpec := { name := "fnExactKeptMoves", fn := fun _ => fun
  | [d1, d2] => { results := [.lit (.bool true)], args := [d1, d2] }
  | _ => none }
def fnExactKeptMovesRow : OpenClaim := { program := "ytkcbldaondflmaa", sum := "86e1249060a465593996881d3c156988e74e3f68adbf4458de1a9c4a5940a1b7", func := "loop.example/g01006/laws.FnExactKeptMoves", spec := "fnExactKeptMoves", apart := false }
def FnExactKeptMovesSaid : Prop := fnExactKeptMovesRow.holds Try.pinned (OpenSpec.ofChange fnExactKeptMovesSpec)

/-- ITS FALSE NEIGHBOUR: 'it returns false'. Refute it at one input. -/
def fnExactKeptMovesWrong : ChangeSpec := { name := "fnExactKeptMoves", fn := fun _ => fun
  | [d1, d2] => { results := [.lit (.bool false)], args := [d1, d2] }
  | _ => none }
def FnExactKeptMovesWrongFalsely : Prop := fnExactKeptMovesRow.holds Try.pinned (OpenSpec.ofChange fnExactKeptMovesWrong)

/-- 'laws.FnExactRecordingScore': WHATEVER THE INPUT: true; the input reads as it did. -/
def fnExactRecordingScoreSpec : ChangeSpec := { name := "fnExactRecordingScore", fn := fun _ => fun
  | [d1, d2] => { results := [.lit (.bool true)], args := [d1, d2] }
  | _ => none }
def fnExactRecordingScoreRow : OpenClaim := { program := "ytkcbldaondflmaa", sum := "86e1249060a465593996881d3c156988e74e3f68adbf4458de1a9c4a5940a1b7", func := "loop.example/g01006/laws.FnExactRecordingScore", spec := "fnExactRecordingScore", apart := false }
def FnExactRecordingScoreSaid : Prop := fnExactRecordingScoreRow.holds Try.pinned (OpenSpec.ofChange fnExactRecordingScoreSpec)

/-- ITS FALSE NEIGHBOUR: 'it returns false'. Refute it at one input. -/
def fnExactRecordingScoreWrong : ChangeSpec := { name := "fnExactRecordingScore", fn := fun _ => fun
  | [d1, d2] => { results := [.lit (.bool false)], args := [d1, d2] }
  | _ => none }
def FnExactRecordingScoreWrongFalsely : Prop := fnExactRecordingScoreRow.holds Try.pinned (OpenSpec.ofChange fnExactRecordingScoreWrong)

/-- 'laws.FnExactSwappedAt': WHATEVER THE INPUT: true; the input reads as it did. -/
def fnExactSwappedAtSpec : ChangeSpec := { name := "fnExactSwappedAt", fn := fun _ => fun
  | [d1, d2] => { results := [.lit (.bool true)], args := [d1, d2] }
  | _ => none }
def fnExactSwappedAtRow : OpenClaim := { program := "ytkcbldaondflmaa", sum := "86e1249060a465593996881d3c156988e74e3f68adbf4458de1a9c4a5940a1b7", func := "loop.example/g01006/laws.FnExactSwappedAt", spec := "fnExactSwappedAt", apart := false }
def FnExactSwappedAtSaid : Prop := fnExactSwappedAtRow.holds Try.pinned (OpenSpec.ofChange fnExactSwappedAtSpec)

/-- ITS FALSE NEIGHBOUR: 'it returns false'. Refute it at one input. -/
def fnExactSwappedAtWrong : ChangeSpec := { name := "fnExactSwappedAt", fn := fun _ => fun
  | [d1, d2] => { results := [.lit (.bool false)], args := [d1, d2] }
  | _ => none }
def FnExactSwappedAtWrongFalsely : Prop := fnExactSwappedAtRow.holds Try.pinned (OpenSpec.ofChange fnExactSwappedAtWrong)

/-- 'laws.FnExactMoveDistance': WHATEVER THE INPUT: true; the input reads as it did. -/
def fnExactMoveDistanceSpec : ChangeSpec := { name := "fnExactMoveDistance", fn := fun _ => fun
  | [d1, d2] => { results := [.lit (.bool true)], args := [d1, d2] }
  | _ => none }
def fnExactMoveDistanceRow : OpenClaim := { program := "ytkcbldaondflmaa", sum := "86e1249060a465593996881d3c156988e74e3f68adbf4458de1a9c4a5940a1b7", func := "loop.example/g01006/laws.FnExactMoveDistance", spec := "fnExactMoveDistance", apart := false }
def FnExactMoveDistanceSaid : Prop := fnExactMoveDistanceRow.holds Try.pinned (OpenSpec.ofChange fnExactMoveDistanceSpec)

/-- ITS FALSE NEIGHBOUR: 'it returns false'. Refute it at one input. -/
def fnExactMoveDistanceWrong : ChangeSpec := { name := "fnExactMoveDistance", fn := fun _ => fun
  | [d1, d2] => { results := [.lit (.bool false)], args := [d1, d2] }
  | _ => none }
def FnExactMoveDistanceWrongFalsely : Prop := fnExactMoveDistanceRow.holds Try.pinned (OpenSpec.ofChange fnExactMoveDistanceWrong)

/-- 'laws.FnExactRodErrors': WHATEVER THE INPUT: true; the input reads as it did. -/
def fnExactRodErrorsSpec : ChangeSpec := { name := "fnExactRodErrors", fn := fun _ => fun
  | [d1, d2, d3] => { results := [.lit (.bool true)], args := [d1, d2, d3] }
  | _ => none }
def fnExactRodErrorsRow : OpenClaim := { program := "ytkcbldaondflmaa", sum := "86e1249060a465593996881d3c156988e74e3f68adbf4458de1a9c4a5940a1b7", func := "loop.example/g01006/laws.FnExactRodErrors", spec := "fnExactRodErrors", apart := false }
def FnExactRodErrorsSaid : Prop := fnExactRodErrorsRow.holds Try.pinned (OpenSpec.ofChange fnExactRodErrorsSpec)

/-- ITS FALSE NEIGHBOUR: 'it returns false'. Refute it at one input. -/
def fnExactRodErrorsWrong : ChangeSpec := { name := "fnExactRodErrors", fn := fun _ => fun
  | [d1, d2, d3] => { results := [.lit (.bool false)], args := [d1, d2, d3] }
  | _ => none }
def FnExactRodErrorsWrongFalsely : Prop := fnExactRodErrorsRow.holds Try.pinned (OpenSpec.ofChange fnExactRodErrorsWrong)

/-- 'laws.FnExactBestRecording': WHATEVER THE INPUT: true; the input reads as it did. -/
def fnExactBestRecordingSpec : ChangeSpec := { name := "fnExactBestRecording", fn := fun _ => fun
  | [d1, d2] => { results := [.lit (.bool true)], args := [d1, d2] }
  | _ => none }
def fnExactBestRecordingRow : OpenClaim := { program := "ytkcbldaondflmaa", sum := "86e1249060a465593996881d3c156988e74e3f68adbf4458de1a9c4a5940a1b7", func := "loop.example/g01006/laws.FnExactBestRecording", spec := "fnExactBestRecording", apart := false }
def FnExactBestRecordingSaid : Prop := fnExactBestRecordingRow.holds Try.pinned (OpenSpec.ofChange fnExactBestRecordingSpec)

/-- ITS FALSE NEIGHBOUR: 'it returns false'. Refute it at one input. -/
def fnExactBestRecordingWrong : ChangeSpec := { name := "fnExactBestRecording", fn := fun _ => fun
  | [d1, d2] => { results := [.lit (.bool false)], args := [d1, d2] }
  | _ => none }
def FnExactBestRecordingWrongFalsely : Prop := fnExactBestRecordingRow.holds Try.pinned (OpenSpec.ofChange fnExactBestRecordingWrong)

/-- 'laws.FnRecordings': WHATEVER THE INPUT: true; the input reads as it did. -/
def fnRecordingsSpec : ChangeSpec := { name := "fnRecordings", fn := fun _ => fun
  | [d] => { results := [.lit (.bool true)], args := [d] }
  | _ => none }
def fnRecordingsRow : OpenClaim := { program := "ytkcbldaondflmaa", sum := "86e1249060a465593996881d3c156988e74e3f68adbf4458de1a9c4a5940a1b7", func := "loop.example/g01006/laws.FnRecordings", spec := "fnRecordings", apart := false }
def FnRecordingsSaid : Prop := fnRecordingsRow.holds Try.pinned (OpenSpec.ofChange fnRecordingsSpec)

/-- ITS FALSE NEIGHBOUR: 'it returns false'. Refute it at one input. -/
def fnRecordingsWrong : ChangeSpec := { name := "fnRecordings", fn := fun _ => fun
  | [d] => { results := [.lit (.bool false)], args := [d] }
  | _ => none }
def FnRecordingsWrongFalsely : Prop := fnRecordingsRow.holds Try.pinned (OpenSpec.ofChange fnRecordingsWrong)

/- THE SECOND FORM. 'bulk': how many values and letters a reading holds, each counted each time it is reached (what is shared counts as often as it is met; a slice's spare places count too). A statement '..UptoSaid' is the law's where the arguments, and the package variables that the reading takes, are together of bulk at most 1048576: NARROWER than '..Said'. Prove '..Said' where nothing that the law and all that it calls make is longer than what came in: it says more and counts as full. Else prove '..UptoSaid'. A law counts once. -/
mutual
def uptoBulk {H : Type} : DataW H → Nat
  | .lit (.string bytes) => bytes.length + 1
  | .lit _ => 1
  | .nil => 1
  | .ptr d => uptoBulk d + 1
  | .slice elems spare => uptoBulkAll elems + uptoBulkAll spare + 1
  | .agg parts => uptoBulkAll parts + 1
  | .iface _ d => uptoBulk d + 1
  | .map entries => uptoBulkEntries entries + 1
  | .held _ => 1
def uptoBulkAll {H : Type} : List (DataW H) → Nat
  | [] => 0
  | d :: r => uptoBulk d + uptoBulkAll r
def uptoBulkEntries {H : Type} : List (Lit × DataW H) → Nat
  | [] => 0
  | x :: r => uptoBulkEntry x + uptoBulkEntries r
def uptoBulkEntry {H : Type} : Lit × DataW H → Nat
  | (.string bytes, d) => bytes.length + uptoBulk d + 1
  | (_, d) => uptoBulk d + 1
 end
def uptoSmall : (H : Type) → List (DataW H) → Bool := fun _ ds => decide (uptoBulkAll ds ≤ 1048576)
def OpenSpec.upto (s : _root_.Go.ChangeSpec) : _root_.Go.OpenSpec := { _root_.Go.OpenSpec.ofChange s with cond := some uptoSmall }

/-- 'laws.FnExactRightAtFirst', WHERE WHAT IT READS IS OF BULK AT MOST 1048576: true; the input reads as it did. -/
def fnExactRightAtFirstUptoRow : OpenClaim := { program := "ytkcbldaondflmaa", sum := "86e1249060a465593996881d3c156988e74e3f68adbf4458de1a9c4a5940a1b7", func := "loop.example/g01006/laws.FnExactRightAtFirst", spec := "fnExactRightAtFirst", apart := false, narrowed := true }
def FnExactRightAtFirstUptoSaid : Prop := fnExactRightAtFirstUptoRow.holds Try.pinned (OpenSpec.upto fnExactRightAtFirstSpec)

/-- 'laws.FnExactKeptMoves', WHERE WHAT IT READS IS OF BULK AT MOST 1048576: true; the input reads as it did. -/
def fnExactKeptMovesUptoRow : OpenClaim := { program := "ytkcbldaondflmaa", sum := "86e1249060a465593996881d3c156988e74e3f68adbf4458de1a9c4a5940a1b7", func := "loop.example/g01006/laws.FnExactKeptMoves", spec := "fnExactKeptMoves", apart := false, narrowed := true }
def FnExactKeptMovesUptoSaid : Prop := fnExactKeptMovesUptoRow.holds Try.pinned (OpenSpec.upto fnExactKeptMovesSpec)

/-- 'laws.FnExactRecordingScore', WHERE WHAT IT READS IS OF BULK AT MOST 1048576: true; the input reads as it did. -/
def fnExactRecordingScoreUptoRow : OpenClaim := { program := "ytkcbldaondflmaa", sum := "86e1249060a465593996881d3c156988e74e3f68adbf4458de1a9c4a5940a1b7", func := "loop.example/g01006/laws.FnExactRecordingScore", spec := "fnExactRecordingScore", apart := false, narrowed := true }
def FnExactRecordingScoreUptoSaid : Prop := fnExactRecordingScoreUptoRow.holds Try.pinned (OpenSpec.upto fnExactRecordingScoreSpec)

/-- 'laws.FnExactSwappedAt', WHERE WHAT IT READS IS OF BULK AT MOST 1048576: true; the input reads as it did. -/
def fnExactSwappedAtUptoRow : OpenClaim := { program := "ytkcbldaondflmaa", sum := "86e1249060a465593996881d3c156988e74e3f68adbf4458de1a9c4a5940a1b7", func := "loop.example/g01006/laws.FnExactSwappedAt", spec := "fnExactSwappedAt", apart := false, narrowed := true }
def FnExactSwappedAtUptoSaid : Prop := fnExactSwappedAtUptoRow.holds Try.pinned (OpenSpec.upto fnExactSwappedAtSpec)

/-- 'laws.FnExactMoveDistance', WHERE WHAT IT READS IS OF BULK AT MOST 1048576: true; the input reads as it did. -/
def fnExactMoveDistanceUptoRow : OpenClaim := { program := "ytkcbldaondflmaa", sum := "86e1249060a465593996881d3c156988e74e3f68adbf4458de1a9c4a5940a1b7", func := "loop.example/g01006/laws.FnExactMoveDistance", spec := "fnExactMoveDistance", apart := false, narrowed := true }
def FnExactMoveDistanceUptoSaid : Prop := fnExactMoveDistanceUptoRow.holds Try.pinned (OpenSpec.upto fnExactMoveDistanceSpec)

/-- 'laws.FnExactRodErrors', WHERE WHAT IT READS IS OF BULK AT MOST 1048576: true; the input reads as it did. -/
def fnExactRodErrorsUptoRow : OpenClaim := { program := "ytkcbldaondflmaa", sum := "86e1249060a465593996881d3c156988e74e3f68adbf4458de1a9c4a5940a1b7", func := "loop.example/g01006/laws.FnExactRodErrors", spec := "fnExactRodErrors", apart := false, narrowed := true }
def FnExactRodErrorsUptoSaid : Prop := fnExactRodErrorsUptoRow.holds Try.pinned (OpenSpec.upto fnExactRodErrorsSpec)

/-- 'laws.FnExactBestRecording', WHERE WHAT IT READS IS OF BULK AT MOST 1048576: true; the input reads as it did. -/
def fnExactBestRecordingUptoRow : OpenClaim := { program := "ytkcbldaondflmaa", sum := "86e1249060a465593996881d3c156988e74e3f68adbf4458de1a9c4a5940a1b7", func := "loop.example/g01006/laws.FnExactBestRecording", spec := "fnExactBestRecording", apart := false, narrowed := true }
def FnExactBestRecordingUptoSaid : Prop := fnExactBestRecordingUptoRow.holds Try.pinned (OpenSpec.upto fnExactBestRecordingSpec)

/-- 'laws.FnRecordings', WHERE WHAT IT READS IS OF BULK AT MOST 1048576: true; the input reads as it did. -/
def fnRecordingsUptoRow : OpenClaim := { program := "ytkcbldaondflmaa", sum := "86e1249060a465593996881d3c156988e74e3f68adbf4458de1a9c4a5940a1b7", func := "loop.example/g01006/laws.FnRecordings", spec := "fnRecordings", apart := false, narrowed := true }
def FnRecordingsUptoSaid : Prop := fnRecordingsUptoRow.holds Try.pinned (OpenSpec.upto fnRecordingsSpec)

end Rows
end Go.Proofs.Ytkcbldaondflmaa
