/-
  No cell of these rows narrows 'for every input' (looked for: loops, veiled, ifaces, maps, wideKeys, modest, calm, conditions, laid).
  DERIVED. THE GIVEN ROWS OF THIS SEAT. 13 by the template 'for every input the law returns true; each argument reads behind the call as it read before'; 0 by the template 'total and deterministic' (their statements: YtcbecfkckdalmaaTotals.lean).
  GIVEN WITH THE SEED: the statements are not yours to turn. If you find one false, say at which input.
  Laid BY PROGRAM, IN A SANDBOX (cutbox-rows.mjs): the forced cells as the released guide's own fill.sh prints them over the translation 1d352c0a2a5b685b… (all of the seat's roots in one cut). By AI agents, Wed Nov 11 2026. No macro, syntax, notation, axiom, sorry.
-/
import Derived.Test.YtcbecfkckdalmaaChecked
import GoSem.Claim
import GoSem.ClaimJoined
import GoSem.ClaimMapViews
import Derived.JoinedTies
import Derived.KernelRfl
namespace Go.Proofs.Ytcbecfkckdalmaa
/- THE CELL 'sum', in the pinned program and in every row, IS THE sha256 OF THE DUMP (.gsa) THAT YtcbecfkckdalmaaProg.lean LOADS. Nothing in Lean hashes anything: it is a label: what it is worth is what the hold of that sum in a sandbox is worth. -/
noncomputable def Try.pinned : Pinned := { name := "ytcbecfkckdalmaa", sum := "1d352c0a2a5b685b04ca04ec242c7a409fc16321c280eb544b164a7bc3a766a1", checked := Try.checked }
namespace Rows
def none {H : Type} : Left H := { results := [], args := [] }

/-- 'laws.FnExactIsSolved': WHATEVER THE INPUT: true; the input reads as it did. -/
def fnExactIsSolvedSpec : ChangeSpec := { name := "fnExactIsSolved", fn := fun _ => fun
  | [d] => { results := [.lit (.bool true)], args := [d] }
  | _ => none }
def fnExactIsSolvedRow : OpenClaim := { program := "ytcbecfkckdalmaa", sum := "1d352c0a2a5b685b04ca04ec242c7a409fc16321c280eb544b164a7bc3a766a1", func := "loop.example/g01006/laws.FnExactIsSolved", spec := "fnExactIsSolved", apart := false }
def FnExactIsSolvedSaid : Prop := fnExactIsSolvedRow.holds Try.pinned (OpenSpec.ofChange fnExactIsSolvedSpec)

/-- ITS FALSE NEIGHBOUR: 'it returns false'. Refute it at one input. -/
def fnExactIsSolvedWrong : ChangeSpec := { name := "fnExactIsSolved", fn := fun _ => fun
  | [d] => { results := [.lit (.bool false)], args := [d] }
  | _ => none }
def FnExactIsSolvedWrongFalsely : Prop := fnExactIsSolvedRow.holds Try.pinned (OpenSpec.ofChange fnExactIsSolvedWrong)

/-- 'laws.FnExactScoreOf': WHATEVER THE INPUT: true; the input reads as it did. -/
def fnExactScoreOfSpec : ChangeSpec := { name := "fnExactScoreOf", fn := fun _ => fun
  | [d] => { results := [.lit (.bool true)], args := [d] }
  | _ => none }
def fnExactScoreOfRow : OpenClaim := { program := "ytcbecfkckdalmaa", sum := "1d352c0a2a5b685b04ca04ec242c7a409fc16321c280eb544b164a7bc3a766a1", func := "loop.example/g01006/laws.FnExactScoreOf", spec := "fnExactScoreOf", apart := false }
def FnExactScoreOfSaid : Prop := fnExactScoreOfRow.holds Try.pinned (OpenSpec.ofChange fnExactScoreOfSpec)

/-- ITS FALSE NEIGHBOUR: 'it returns false'. Refute it at one input. -/
def fnExactScoreOfWrong : ChangeSpec := { name := "fnExactScoreOf", fn := fun _ => fun
  | [d] => { results := [.lit (.bool false)], args := [d] }
  | _ => none }
def FnExactScoreOfWrongFalsely : Prop := fnExactScoreOfRow.holds Try.pinned (OpenSpec.ofChange fnExactScoreOfWrong)

/-- 'laws.FnExactAreSolved': WHATEVER THE INPUT: true; the input reads as it did. -/
def fnExactAreSolvedSpec : ChangeSpec := { name := "fnExactAreSolved", fn := fun _ => fun
  | [d] => { results := [.lit (.bool true)], args := [d] }
  | _ => none }
def fnExactAreSolvedRow : OpenClaim := { program := "ytcbecfkckdalmaa", sum := "1d352c0a2a5b685b04ca04ec242c7a409fc16321c280eb544b164a7bc3a766a1", func := "loop.example/g01006/laws.FnExactAreSolved", spec := "fnExactAreSolved", apart := false }
def FnExactAreSolvedSaid : Prop := fnExactAreSolvedRow.holds Try.pinned (OpenSpec.ofChange fnExactAreSolvedSpec)

/-- ITS FALSE NEIGHBOUR: 'it returns false'. Refute it at one input. -/
def fnExactAreSolvedWrong : ChangeSpec := { name := "fnExactAreSolved", fn := fun _ => fun
  | [d] => { results := [.lit (.bool false)], args := [d] }
  | _ => none }
def FnExactAreSolvedWrongFalsely : Prop := fnExactAreSolvedRow.holds Try.pinned (OpenSpec.ofChange fnExactAreSolvedWrong)

/-- 'laws.FnExactHeatWinner': WHATEVER THE INPUT: true; the input reads as it did. -/
def fnExactHeatWinnerSpec : ChangeSpec := { name := "fnExactHeatWinner", fn := fun _ => fun
  | [d1, d2] => { results := [.lit (.bool true)], args := [d1, d2] }
  | _ => none }
def fnExactHeatWinnerRow : OpenClaim := { program := "ytcbecfkckdalmaa", sum := "1d352c0a2a5b685b04ca04ec242c7a409fc16321c280eb544b164a7bc3a766a1", func := "loop.example/g01006/laws.FnExactHeatWinner", spec := "fnExactHeatWinner", apart := false }
def FnExactHeatWinnerSaid : Prop := fnExactHeatWinnerRow.holds Try.pinned (OpenSpec.ofChange fnExactHeatWinnerSpec)

/-- ITS FALSE NEIGHBOUR: 'it returns false'. Refute it at one input. -/
def fnExactHeatWinnerWrong : ChangeSpec := { name := "fnExactHeatWinner", fn := fun _ => fun
  | [d1, d2] => { results := [.lit (.bool false)], args := [d1, d2] }
  | _ => none }
def FnExactHeatWinnerWrongFalsely : Prop := fnExactHeatWinnerRow.holds Try.pinned (OpenSpec.ofChange fnExactHeatWinnerWrong)

/-- 'laws.FnExactTotalOf': WHATEVER THE INPUT: true; the input reads as it did. -/
def fnExactTotalOfSpec : ChangeSpec := { name := "fnExactTotalOf", fn := fun _ => fun
  | [d1, d2] => { results := [.lit (.bool true)], args := [d1, d2] }
  | _ => none }
def fnExactTotalOfRow : OpenClaim := { program := "ytcbecfkckdalmaa", sum := "1d352c0a2a5b685b04ca04ec242c7a409fc16321c280eb544b164a7bc3a766a1", func := "loop.example/g01006/laws.FnExactTotalOf", spec := "fnExactTotalOf", apart := false }
def FnExactTotalOfSaid : Prop := fnExactTotalOfRow.holds Try.pinned (OpenSpec.ofChange fnExactTotalOfSpec)

/-- ITS FALSE NEIGHBOUR: 'it returns false'. Refute it at one input. -/
def fnExactTotalOfWrong : ChangeSpec := { name := "fnExactTotalOf", fn := fun _ => fun
  | [d1, d2] => { results := [.lit (.bool false)], args := [d1, d2] }
  | _ => none }
def FnExactTotalOfWrongFalsely : Prop := fnExactTotalOfRow.holds Try.pinned (OpenSpec.ofChange fnExactTotalOfWrong)

/-- 'laws.FnExactProtest': WHATEVER THE INPUT: true; the input reads as it did. -/
def fnExactProtestSpec : ChangeSpec := { name := "fnExactProtest", fn := fun _ => fun
  | [d1, d2, d3] => { results := [.lit (.bool true)], args := [d1, d2, d3] }
  | _ => none }
def fnExactProtestRow : OpenClaim := { program := "ytcbecfkckdalmaa", sum := "1d352c0a2a5b685b04ca04ec242c7a409fc16321c280eb544b164a7bc3a766a1", func := "loop.example/g01006/laws.FnExactProtest", spec := "fnExactProtest", apart := false }
def FnExactProtestSaid : Prop := fnExactProtestRow.holds Try.pinned (OpenSpec.ofChange fnExactProtestSpec)

/-- ITS FALSE NEIGHBOUR: 'it returns false'. Refute it at one input. -/
def fnExactProtestWrong : ChangeSpec := { name := "fnExactProtest", fn := fun _ => fun
  | [d1, d2, d3] => { results := [.lit (.bool false)], args := [d1, d2, d3] }
  | _ => none }
def FnExactProtestWrongFalsely : Prop := fnExactProtestRow.holds Try.pinned (OpenSpec.ofChange fnExactProtestWrong)

/-- 'laws.FnExactNeededRight': WHATEVER THE INPUT: true; the input reads as it did. -/
def fnExactNeededRightSpec : ChangeSpec := { name := "fnExactNeededRight", fn := fun _ => fun
  | [d1, d2] => { results := [.lit (.bool true)], args := [d1, d2] }
  | _ => none }
def fnExactNeededRightRow : OpenClaim := { program := "ytcbecfkckdalmaa", sum := "1d352c0a2a5b685b04ca04ec242c7a409fc16321c280eb544b164a7bc3a766a1", func := "loop.example/g01006/laws.FnExactNeededRight", spec := "fnExactNeededRight", apart := false }
def FnExactNeededRightSaid : Prop := fnExactNeededRightRow.holds Try.pinned (OpenSpec.ofChange fnExactNeededRightSpec)

/-- ITS FALSE NEIGHBOUR: 'it returns false'. Refute it at one input. -/
def fnExactNeededRightWrong : ChangeSpec := { name := "fnExactNeededRight", fn := fun _ => fun
  | [d1, d2] => { results := [.lit (.bool false)], args := [d1, d2] }
  | _ => none }
def FnExactNeededRightWrongFalsely : Prop := fnExactNeededRightRow.holds Try.pinned (OpenSpec.ofChange fnExactNeededRightWrong)

/-- 'laws.FnExactPlaceOf': WHATEVER THE INPUT: true; the input reads as it did. -/
def fnExactPlaceOfSpec : ChangeSpec := { name := "fnExactPlaceOf", fn := fun _ => fun
  | [d1, d2] => { results := [.lit (.bool true)], args := [d1, d2] }
  | _ => none }
def fnExactPlaceOfRow : OpenClaim := { program := "ytcbecfkckdalmaa", sum := "1d352c0a2a5b685b04ca04ec242c7a409fc16321c280eb544b164a7bc3a766a1", func := "loop.example/g01006/laws.FnExactPlaceOf", spec := "fnExactPlaceOf", apart := false }
def FnExactPlaceOfSaid : Prop := fnExactPlaceOfRow.holds Try.pinned (OpenSpec.ofChange fnExactPlaceOfSpec)

/-- ITS FALSE NEIGHBOUR: 'it returns false'. Refute it at one input. -/
def fnExactPlaceOfWrong : ChangeSpec := { name := "fnExactPlaceOf", fn := fun _ => fun
  | [d1, d2] => { results := [.lit (.bool false)], args := [d1, d2] }
  | _ => none }
def FnExactPlaceOfWrongFalsely : Prop := fnExactPlaceOfRow.holds Try.pinned (OpenSpec.ofChange fnExactPlaceOfWrong)

/-- 'laws.FnExactFinalists': WHATEVER THE INPUT: true; the input reads as it did. -/
def fnExactFinalistsSpec : ChangeSpec := { name := "fnExactFinalists", fn := fun _ => fun
  | [d1, d2] => { results := [.lit (.bool true)], args := [d1, d2] }
  | _ => none }
def fnExactFinalistsRow : OpenClaim := { program := "ytcbecfkckdalmaa", sum := "1d352c0a2a5b685b04ca04ec242c7a409fc16321c280eb544b164a7bc3a766a1", func := "loop.example/g01006/laws.FnExactFinalists", spec := "fnExactFinalists", apart := false }
def FnExactFinalistsSaid : Prop := fnExactFinalistsRow.holds Try.pinned (OpenSpec.ofChange fnExactFinalistsSpec)

/-- ITS FALSE NEIGHBOUR: 'it returns false'. Refute it at one input. -/
def fnExactFinalistsWrong : ChangeSpec := { name := "fnExactFinalists", fn := fun _ => fun
  | [d1, d2] => { results := [.lit (.bool false)], args := [d1, d2] }
  | _ => none }
def FnExactFinalistsWrongFalsely : Prop := fnExactFinalistsRow.holds Try.pinned (OpenSpec.ofChange fnExactFinalistsWrong)

/-- 'laws.FnExactStandings': WHATEVER THE INPUT: true; the input reads as it did. -/
def fnExactStandingsSpec : ChangeSpec := { name := "fnExactStandings", fn := fun _ => fun
  | [d] => { results := [.lit (.bool true)], args := [d] }
  | _ => none }
def fnExactStandingsRow : OpenClaim := { program := "ytcbecfkckdalmaa", sum := "1d352c0a2a5b685b04ca04ec242c7a409fc16321c280eb544b164a7bc3a766a1", func := "loop.example/g01006/laws.FnExactStandings", spec := "fnExactStandings", apart := false }
def FnExactStandingsSaid : Prop := fnExactStandingsRow.holds Try.pinned (OpenSpec.ofChange fnExactStandingsSpec)

/-- ITS FALSE NEIGHBOUR: 'it returns false'. Refute it at one input. -/
def fnExactStandingsWrong : ChangeSpec := { name := "fnExactStandings", fn := fun _ => fun
  | [d] => { results := [.lit (.bool false)], args := [d] }
  | _ => none }
def FnExactStandingsWrongFalsely : Prop := fnExactStandingsRow.holds Try.pinned (OpenSpec.ofChange fnExactStandingsWrong)

/-- 'laws.FnExactPlacesAfterHeat': WHATEVER THE INPUT: true; the input reads as it did. -/
def fnExactPlacesAfterHeatSpec : ChangeSpec := { name := "fnExactPlacesAfterHeat", fn := fun _ => fun
  | [d1, d2] => { results := [.lit (.bool true)], args := [d1, d2] }
  | _ => none }
def fnExactPlacesAfterHeatRow : OpenClaim := { program := "ytcbecfkckdalmaa", sum := "1d352c0a2a5b685b04ca04ec242c7a409fc16321c280eb544b164a7bc3a766a1", func := "loop.example/g01006/laws.FnExactPlacesAfterHeat", spec := "fnExactPlacesAfterHeat", apart := false }
def FnExactPlacesAfterHeatSaid : Prop := fnExactPlacesAfterHeatRow.holds Try.pinned (OpenSpec.ofChange fnExactPlacesAfterHeatSpec)

/-- ITS FALSE NEIGHBOUR: 'it returns false'. Refute it at one input. -/
def fnExactPlacesAfterHeatWrong : ChangeSpec := { name := "fnExactPlacesAfterHeat", fn := fun _ => fun
  | [d1, d2] => { results := [.lit (.bool false)], args := [d1, d2] }
  | _ => none }
def FnExactPlacesAfterHeatWrongFalsely : Prop := fnExactPlacesAfterHeatRow.holds Try.pinned (OpenSpec.ofChange fnExactPlacesAfterHeatWrong)

/-- 'laws.FnProtests': WHATEVER THE INPUT: true; the input reads as it did. -/
def fnProtestsSpec : ChangeSpec := { name := "fnProtests", fn := fun _ => fun
  | [d] => { results := [.lit (.bool true)], args := [d] }
  | _ => none }
def fnProtestsRow : OpenClaim := { program := "ytcbecfkckdalmaa", sum := "1d352c0a2a5b685b04ca04ec242c7a409fc16321c280eb544b164a7bc3a766a1", func := "loop.example/g01006/laws.FnProtests", spec := "fnProtests", apart := false }
def FnProtestsSaid : Prop := fnProtestsRow.holds Try.pinned (OpenSpec.ofChange fnProtestsSpec)

/-- ITS FALSE NEIGHBOUR: 'it returns false'. Refute it at one input. -/
def fnProtestsWrong : ChangeSpec := { name := "fnProtests", fn := fun _ => fun
  | [d] => { results := [.lit (.bool false)], args := [d] }
  | _ => none }
def FnProtestsWrongFalsely : Prop := fnProtestsRow.holds Try.pinned (OpenSpec.ofChange fnProtestsWrong)

/-- 'laws.FnContests': WHATEVER THE INPUT: true; the input reads as it did. -/
def fnContestsSpec : ChangeSpec := { name := "fnContests", fn := fun _ => fun
  | [d] => { results := [.lit (.bool true)], args := [d] }
  | _ => none }
def fnContestsRow : OpenClaim := { program := "ytcbecfkckdalmaa", sum := "1d352c0a2a5b685b04ca04ec242c7a409fc16321c280eb544b164a7bc3a766a1", func := "loop.example/g01006/laws.FnContests", spec := "fnContests", apart := false }
def FnContestsSaid : Prop := fnContestsRow.holds Try.pinned (OpenSpec.ofChange fnContestsSpec)

/-- ITS FALSE NEIGHBOUR: 'it returns false'. Refute it at one input. -/
def fnContestsWrong : ChangeSpec := { name := "fnContests", fn := fun _ => fun
  | [d] => { results := [.lit (.bool false)], args := [d] }
  | _ => none }
def FnContestsWrongFalsely : Prop := fnContestsRow.holds Try.pinned (OpenSpec.ofChange fnContestsWrong)

/- THE SECOND FORM. 'bulk': how many values and letters a reading holds, each counted each time it is reached (what is shared counts as often as it is met; a slice's spare places count too). A statement '..UptoSaid' is the law's where the arguments, and the package variables that the reading takes, are together of bulk at most 1048576: NARROWER than '..Said'. Prove '..Said' where nothing that the law and all that it calls make is longer than what came in: it says more and counts as full. Else prove '..UptoSaid'. A law counts once. -/
mutual
def uptoBulk {H : Type} : DataW H → Nat
  | .lit (.string bytes) => bytes.length + 1
  | .lit _ => 1
  | .nil => 1
  | .ptr d => uptoBulk d + 1
  | .slice elems spare => uptoBulkAll elems + uptoBulkAll spare + 1
  | .agg parts => uptoBulkAll parts + 1
  | .iface _ d => uptoBulk d + 1
  | .map entries => uptoBulkEntries entries + 1
  | .held _ => 1
def uptoBulkAll {H : Type} : List (DataW H) → Nat
  | [] => 0
  | d :: r => uptoBulk d + uptoBulkAll r
def uptoBulkEntries {H : Type} : List (Lit × DataW H) → Nat
  | [] => 0
  | x :: r => uptoBulkEntry x + uptoBulkEntries r
def uptoBulkEntry {H : Type} : Lit × DataW H → Nat
  | (.string bytes, d) => bytes.length + uptoBulk d + 1
  | (_, d) => uptoBulk d + 1
 end
def uptoSmall : (H : Type) → List (DataW H) → Bool := fun _ ds => decide (uptoBulkAll ds ≤ 1048576)
def OpenSpec.upto (s : _root_.Go.ChangeSpec) : _root_.Go.OpenSpec := { _root_.Go.OpenSpec.ofChange s with cond := some uptoSmall }

/-- 'laws.FnExactIsSolved', WHERE WHAT IT READS IS OF BULK AT MOST 1048576: true; the input reads as it did. -/
def fnExactIsSolvedUptoRow : OpenClaim := { program := "ytcbecfkckdalmaa", sum := "1d352c0a2a5b685b04ca04ec242c7a409fc16321c280eb544b164a7bc3a766a1", func := "loop.example/g01006/laws.FnExactIsSolved", spec := "fnExactIsSolved", apart := false, narrowed := true }
def FnExactIsSolvedUptoSaid : Prop := fnExactIsSolvedUptoRow.holds Try.pinned (OpenSpec.upto fnExactIsSolvedSpec)

/-- 'laws.FnExactScoreOf', WHERE WHAT IT READS IS OF BULK AT MOST 1048576: true; the input reads as it did. -/
def fnExactScoreOfUptoRow : OpenClaim := { program := "ytcbecfkckdalmaa", sum := "1d352c0a2a5b685b04ca04ec242c7a409fc16321c280eb544b164a7bc3a766a1", func := "loop.example/g01006/laws.FnExactScoreOf", spec := "fnExactScoreOf", apart := false, narrowed := true }
def FnExactScoreOfUptoSaid : Prop := fnExactScoreOfUptoRow.holds Try.pinned (OpenSpec.upto fnExactScoreOfSpec)

/-- 'laws.FnExactAreSolved', WHERE WHAT IT READS IS OF BULK AT MOST 1048576: true; the input reads as it did. -/
def fnExactAreSolvedUptoRow : OpenClaim := { program := "ytcbecfkckdalmaa", sum := "1d352c0a2a5b685b04ca04ec242c7a409fc16321c280eb544b164a7bc3a766a1", func := "loop.example/g01006/laws.FnExactAreSolved", spec := "fnExactAreSolved", apart := false, narrowed := true }
def FnExactAreSolvedUptoSaid : Prop := fnExactAreSolvedUptoRow.holds Try.pinned (OpenSpec.upto fnExactAreSolvedSpec)

/-- 'laws.FnExactHeatWinner', WHERE WHAT IT READS IS OF BULK AT MOST 1048576: true; the input reads as it did. -/
def fnExactHeatWinnerUptoRow : OpenClaim := { program := "ytcbecfkckdalmaa", sum := "1d352c0a2a5b685b04ca04ec242c7a409fc16321c280eb544b164a7bc3a766a1", func := "loop.example/g01006/laws.FnExactHeatWinner", spec := "fnExactHeatWinner", apart := false, narrowed := true }
def FnExactHeatWinnerUptoSaid : Prop := fnExactHeatWinnerUptoRow.holds Try.pinned (OpenSpec.upto fnExactHeatWinnerSpec)

/-- 'laws.FnExactTotalOf', WHERE WHAT IT READS IS OF BULK AT MOST 1048576: true; the input reads as it did. -/
def fnExactTotalOfUptoRow : OpenClaim := { program := "ytcbecfkckdalmaa", sum := "1d352c0a2a5b685b04ca04ec242c7a409fc16321c280eb544b164a7bc3a766a1", func := "loop.example/g01006/laws.FnExactTotalOf", spec := "fnExactTotalOf", apart := false, narrowed := true }
def FnExactTotalOfUptoSaid : Prop := fnExactTotalOfUptoRow.holds Try.pinned (OpenSpec.upto fnExactTotalOfSpec)

/-- 'laws.FnExactProtest', WHERE WHAT IT READS IS OF BULK AT MOST 1048576: true; the input reads as it did. -/
def fnExactProtestUptoRow : OpenClaim := { program := "ytcbecfkckdalmaa", sum := "1d352c0a2a5b685b04ca04ec242c7a409fc16321c280eb544b164a7bc3a766a1", func := "loop.example/g01006/laws.FnExactProtest", spec := "fnExactProtest", apart := false, narrowed := true }
def FnExactProtestUptoSaid : Prop := fnExactProtestUptoRow.holds Try.pinned (OpenSpec.upto fnExactProtestSpec)

/-- 'laws.FnExactNeededRight', WHERE WHAT IT READS IS OF BULK AT MOST 1048576: true; the input reads as it did. -/
def fnExactNeededRightUptoRow : OpenClaim := { program := "ytcbecfkckdalmaa", sum := "1d352c0a2a5b685b04ca04ec242c7a409fc16321c280eb544b164a7bc3a766a1", func := "loop.example/g01006/laws.FnExactNeededRight", spec := "fnExactNeededRight", apart := false, narrowed := true }
def FnExactNeededRightUptoSaid : Prop := fnExactNeededRightUptoRow.holds Try.pinned (OpenSpec.upto fnExactNeededRightSpec)

/-- 'laws.FnExactPlaceOf', WHERE WHAT IT READS IS OF BULK AT MOST 1048576: true; the input reads as it did. -/
def fnExactPlaceOfUptoRow : OpenClaim := { program := "ytcbecfkckdalmaa", sum := "1d352c0a2a5b685b04ca04ec242c7a409fc16321c280eb544b164a7bc3a766a1", func := "loop.example/g01006/laws.FnExactPlaceOf", spec := "fnExactPlaceOf", apart := false, narrowed := true }
def FnExactPlaceOfUptoSaid : Prop := fnExactPlaceOfUptoRow.holds Try.pinned (OpenSpec.upto fnExactPlaceOfSpec)

/-- 'laws.FnExactFinalists', WHERE WHAT IT READS IS OF BULK AT MOST 1048576: true; the input reads as it did. -/
def fnExactFinalistsUptoRow : OpenClaim := { program := "ytcbecfkckdalmaa", sum := "1d352c0a2a5b685b04ca04ec242c7a409fc16321c280eb544b164a7bc3a766a1", func := "loop.example/g01006/laws.FnExactFinalists", spec := "fnExactFinalists", apart := false, narrowed := true }
def FnExactFinalistsUptoSaid : Prop := fnExactFinalistsUptoRow.holds Try.pinned (OpenSpec.upto fnExactFinalistsSpec)

/-- 'laws.FnExactStandings', WHERE WHAT IT READS IS OF BULK AT MOST 1048576: true; the input reads as it did. -/
def fnExactStandingsUptoRow : OpenClaim := { program := "ytcbecfkckdalmaa", sum := "1d352c0a2a5b685b04ca04ec242c7a409fc16321c280eb544b164a7bc3a766a1", func := "loop.example/g01006/laws.FnExactStandings", spec := "fnExactStandings", apart := false, narrowed := true }
def FnExactStandingsUptoSaid : Prop := fnExactStandingsUptoRow.holds Try.pinned (OpenSpec.upto fnExactStandingsSpec)

/-- 'laws.FnExactPlacesAfterHeat', WHERE WHAT IT READS IS OF BULK AT MOST 1048576: true; the input reads as it did. -/
def fnExactPlacesAfterHeatUptoRow : OpenClaim := { program := "ytcbecfkckdalmaa", sum := "1d352c0a2a5b685b04ca04ec242c7a409fc16321c280eb544b164a7bc3a766a1", func := "loop.example/g01006/laws.FnExactPlacesAfterHeat", spec := "fnExactPlacesAfterHeat", apart := false, narrowed := true }
def FnExactPlacesAfterHeatUptoSaid : Prop := fnExactPlacesAfterHeatUptoRow.holds Try.pinned (OpenSpec.upto fnExactPlacesAfterHeatSpec)

/-- 'laws.FnProtests', WHERE WHAT IT READS IS OF BULK AT MOST 1048576: true; the input reads as it did. -/
def fnProtestsUptoRow : OpenClaim := { program := "ytcbecfkckdalmaa", sum := "1d352c0a2a5b685b04ca04ec242c7a409fc16321c280eb544b164a7bc3a766a1", func := "loop.example/g01006/laws.FnProtests", spec := "fnProtests", apart := false, narrowed := true }
def FnProtestsUptoSaid : Prop := fnProtestsUptoRow.holds Try.pinned (OpenSpec.upto fnProtestsSpec)

/-- 'laws.FnContests', WHERE WHAT IT READS IS OF BULK AT MOST 1048576: true; the input reads as it did. -/
def fnContestsUptoRow : OpenClaim := { program := "ytcbecfkckdalmaa", sum := "1d352c0a2a5b685b04ca04ec242c7a409fc16321c280eb544b164a7bc3a766a1", func := "loop.example/g01006/laws.FnContests", spec := "fnContests", apart := false, narrowed := true }
def FnContestsUptoSaid : Prop := fnContestsUptoRow.holds Try.pinned (OpenSpec.upto fnContestsSpec)

end Rows
end Go.Proofs.Ytcbecfkckdalmaa
