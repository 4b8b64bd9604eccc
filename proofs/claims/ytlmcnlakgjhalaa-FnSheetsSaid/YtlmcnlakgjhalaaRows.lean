/-
  No cell of these rows narrows 'for every input' (looked for: loops, veiled, ifaces, maps, wideKeys, modest, calm, conditions, laid).
  DERIVED. THE GIVEN ROWS OF THIS SEAT. 11 by the template 'for every input the law returns true; each argument reads behind the call as it read before'; 0 by the template 'total and deterministic' (their statements: YtlmcnlakgjhalaaTotals.lean).
  GIVEN WITH THE SEED: the statements are not yours to turn. If you find one false, say at which input.
  Laid BY PROGRAM, IN A SANDBOX (cutbox-rows.mjs): the forced cells as the released guide's own fill.sh prints them over the translation f8bc7312c3b8b9ea… (all of the seat's roots in one cut). By AI agents, Wed Nov 11 2026. No macro, syntax, notation, axiom, sorry.
-/
import Derived.Test.YtlmcnlakgjhalaaChecked
import GoSem.Claim
import GoSem.ClaimJoined
import GoSem.ClaimMapViews
import Derived.JoinedTies
import Derived.KernelRfl
namespace Go.Proofs.Ytlmcnlakgjhalaa
/- THE CELL 'sum', in the pinned program and in every row, IS THE sha256 OF THE DUMP (.gsa) THAT YtlmcnlakgjhalaaProg.lean LOADS. Nothing in Lean hashes anything: it is a label: what it is worth is what the hold of that sum in a sandbox is worth. -/
noncomputable def Try.pinned : Pinned := { name := "ytlmcnlakgjhalaa", sum := "f8bc7312c3b8b9ea1c7e52c89d569cf047a29599c3e54edafd33bc59cfabe055", checked := Try.checked }
namespace Rows
def none {H : Type} : Left H := { results := [], args := [] }

/-- 'laws.FnExactPartnerFor': WHATEVER THE INPUT: true; the input reads as it did. -/
def fnExactPartnerForSpec : ChangeSpec := { name := "fnExactPartnerFor", fn := fun _ => fun
  | [d1, d2] => { results := [.lit (.bool true)], args := [d1, d2] }
  | _ => none }
def fnExactPartnerForRow : OpenClaim := { program := "ytlmcnlakgjhalaa", sum := "f8bc7312c3b8b9ea1c7e52c89d569cf047a29599c3e54edafd33bc59cfabe055", func := "loop.example/g01006/laws.FnExactPartnerFor", spec := "fnExactPartnerFor", apart := false }
def FnExactPartnerForSaid : Prop := fnExactPartnerForRow.holds Try.pinned (OpenSpec.ofChange fnExactPartnerForSpec)

/-- ITS FALSE NEIGHBOUR: 'it returns false'. Refute it at one input. -/
def fnExactPartnerForWrong : ChangeSpec := { name := "fnExactPartnerFor", fn := fun _ => fun
  | [d1, d2] => { results := [.lit (.bool false)], args := [d1, d2] }
  | _ => none }
def FnExactPartnerForWrongFalsely : Prop := fnExactPartnerForRow.holds Try.pinned (OpenSpec.ofChange fnExactPartnerForWrong)

/-- 'laws.FnExactHowMany': WHATEVER THE INPUT: true; the input reads as it did. -/
def fnExactHowManySpec : ChangeSpec := { name := "fnExactHowMany", fn := fun _ => fun
  | [d1, d2] => { results := [.lit (.bool true)], args := [d1, d2] }
  | _ => none }
def fnExactHowManyRow : OpenClaim := { program := "ytlmcnlakgjhalaa", sum := "f8bc7312c3b8b9ea1c7e52c89d569cf047a29599c3e54edafd33bc59cfabe055", func := "loop.example/g01006/laws.FnExactHowMany", spec := "fnExactHowMany", apart := false }
def FnExactHowManySaid : Prop := fnExactHowManyRow.holds Try.pinned (OpenSpec.ofChange fnExactHowManySpec)

/-- ITS FALSE NEIGHBOUR: 'it returns false'. Refute it at one input. -/
def fnExactHowManyWrong : ChangeSpec := { name := "fnExactHowMany", fn := fun _ => fun
  | [d1, d2] => { results := [.lit (.bool false)], args := [d1, d2] }
  | _ => none }
def FnExactHowManyWrongFalsely : Prop := fnExactHowManyRow.holds Try.pinned (OpenSpec.ofChange fnExactHowManyWrong)

/-- 'laws.FnExactCarryColumns': WHATEVER THE INPUT: true; the input reads as it did. -/
def fnExactCarryColumnsSpec : ChangeSpec := { name := "fnExactCarryColumns", fn := fun _ => fun
  | [d1, d2] => { results := [.lit (.bool true)], args := [d1, d2] }
  | _ => none }
def fnExactCarryColumnsRow : OpenClaim := { program := "ytlmcnlakgjhalaa", sum := "f8bc7312c3b8b9ea1c7e52c89d569cf047a29599c3e54edafd33bc59cfabe055", func := "loop.example/g01006/laws.FnExactCarryColumns", spec := "fnExactCarryColumns", apart := false }
def FnExactCarryColumnsSaid : Prop := fnExactCarryColumnsRow.holds Try.pinned (OpenSpec.ofChange fnExactCarryColumnsSpec)

/-- ITS FALSE NEIGHBOUR: 'it returns false'. Refute it at one input. -/
def fnExactCarryColumnsWrong : ChangeSpec := { name := "fnExactCarryColumns", fn := fun _ => fun
  | [d1, d2] => { results := [.lit (.bool false)], args := [d1, d2] }
  | _ => none }
def FnExactCarryColumnsWrongFalsely : Prop := fnExactCarryColumnsRow.holds Try.pinned (OpenSpec.ofChange fnExactCarryColumnsWrong)

/-- 'laws.FnExactChainOf': WHATEVER THE INPUT: true; the input reads as it did. -/
def fnExactChainOfSpec : ChangeSpec := { name := "fnExactChainOf", fn := fun _ => fun
  | [d1, d2] => { results := [.lit (.bool true)], args := [d1, d2] }
  | _ => none }
def fnExactChainOfRow : OpenClaim := { program := "ytlmcnlakgjhalaa", sum := "f8bc7312c3b8b9ea1c7e52c89d569cf047a29599c3e54edafd33bc59cfabe055", func := "loop.example/g01006/laws.FnExactChainOf", spec := "fnExactChainOf", apart := false }
def FnExactChainOfSaid : Prop := fnExactChainOfRow.holds Try.pinned (OpenSpec.ofChange fnExactChainOfSpec)

/-- ITS FALSE NEIGHBOUR: 'it returns false'. Refute it at one input. -/
def fnExactChainOfWrong : ChangeSpec := { name := "fnExactChainOf", fn := fun _ => fun
  | [d1, d2] => { results := [.lit (.bool false)], args := [d1, d2] }
  | _ => none }
def FnExactChainOfWrongFalsely : Prop := fnExactChainOfRow.holds Try.pinned (OpenSpec.ofChange fnExactChainOfWrong)

/-- 'laws.FnExactSheetTotal': WHATEVER THE INPUT: true; the input reads as it did. -/
def fnExactSheetTotalSpec : ChangeSpec := { name := "fnExactSheetTotal", fn := fun _ => fun
  | [d] => { results := [.lit (.bool true)], args := [d] }
  | _ => none }
def fnExactSheetTotalRow : OpenClaim := { program := "ytlmcnlakgjhalaa", sum := "f8bc7312c3b8b9ea1c7e52c89d569cf047a29599c3e54edafd33bc59cfabe055", func := "loop.example/g01006/laws.FnExactSheetTotal", spec := "fnExactSheetTotal", apart := false }
def FnExactSheetTotalSaid : Prop := fnExactSheetTotalRow.holds Try.pinned (OpenSpec.ofChange fnExactSheetTotalSpec)

/-- ITS FALSE NEIGHBOUR: 'it returns false'. Refute it at one input. -/
def fnExactSheetTotalWrong : ChangeSpec := { name := "fnExactSheetTotal", fn := fun _ => fun
  | [d] => { results := [.lit (.bool false)], args := [d] }
  | _ => none }
def FnExactSheetTotalWrongFalsely : Prop := fnExactSheetTotalRow.holds Try.pinned (OpenSpec.ofChange fnExactSheetTotalWrong)

/-- 'laws.FnExactFirstOnes': WHATEVER THE INPUT: true; the input reads as it did. -/
def fnExactFirstOnesSpec : ChangeSpec := { name := "fnExactFirstOnes", fn := fun _ => fun
  | [d1, d2] => { results := [.lit (.bool true)], args := [d1, d2] }
  | _ => none }
def fnExactFirstOnesRow : OpenClaim := { program := "ytlmcnlakgjhalaa", sum := "f8bc7312c3b8b9ea1c7e52c89d569cf047a29599c3e54edafd33bc59cfabe055", func := "loop.example/g01006/laws.FnExactFirstOnes", spec := "fnExactFirstOnes", apart := false }
def FnExactFirstOnesSaid : Prop := fnExactFirstOnesRow.holds Try.pinned (OpenSpec.ofChange fnExactFirstOnesSpec)

/-- ITS FALSE NEIGHBOUR: 'it returns false'. Refute it at one input. -/
def fnExactFirstOnesWrong : ChangeSpec := { name := "fnExactFirstOnes", fn := fun _ => fun
  | [d1, d2] => { results := [.lit (.bool false)], args := [d1, d2] }
  | _ => none }
def FnExactFirstOnesWrongFalsely : Prop := fnExactFirstOnesRow.holds Try.pinned (OpenSpec.ofChange fnExactFirstOnesWrong)

/-- 'laws.FnExactNoRepeats': WHATEVER THE INPUT: true; the input reads as it did. -/
def fnExactNoRepeatsSpec : ChangeSpec := { name := "fnExactNoRepeats", fn := fun _ => fun
  | [d] => { results := [.lit (.bool true)], args := [d] }
  | _ => none }
def fnExactNoRepeatsRow : OpenClaim := { program := "ytlmcnlakgjhalaa", sum := "f8bc7312c3b8b9ea1c7e52c89d569cf047a29599c3e54edafd33bc59cfabe055", func := "loop.example/g01006/laws.FnExactNoRepeats", spec := "fnExactNoRepeats", apart := false }
def FnExactNoRepeatsSaid : Prop := fnExactNoRepeatsRow.holds Try.pinned (OpenSpec.ofChange fnExactNoRepeatsSpec)

/-- ITS FALSE NEIGHBOUR: 'it returns false'. Refute it at one input. -/
def fnExactNoRepeatsWrong : ChangeSpec := { name := "fnExactNoRepeats", fn := fun _ => fun
  | [d] => { results := [.lit (.bool false)], args := [d] }
  | _ => none }
def FnExactNoRepeatsWrongFalsely : Prop := fnExactNoRepeatsRow.holds Try.pinned (OpenSpec.ofChange fnExactNoRepeatsWrong)

/-- 'laws.FnExactSheetCarries': WHATEVER THE INPUT: true; the input reads as it did. -/
def fnExactSheetCarriesSpec : ChangeSpec := { name := "fnExactSheetCarries", fn := fun _ => fun
  | [d] => { results := [.lit (.bool true)], args := [d] }
  | _ => none }
def fnExactSheetCarriesRow : OpenClaim := { program := "ytlmcnlakgjhalaa", sum := "f8bc7312c3b8b9ea1c7e52c89d569cf047a29599c3e54edafd33bc59cfabe055", func := "loop.example/g01006/laws.FnExactSheetCarries", spec := "fnExactSheetCarries", apart := false }
def FnExactSheetCarriesSaid : Prop := fnExactSheetCarriesRow.holds Try.pinned (OpenSpec.ofChange fnExactSheetCarriesSpec)

/-- ITS FALSE NEIGHBOUR: 'it returns false'. Refute it at one input. -/
def fnExactSheetCarriesWrong : ChangeSpec := { name := "fnExactSheetCarries", fn := fun _ => fun
  | [d] => { results := [.lit (.bool false)], args := [d] }
  | _ => none }
def FnExactSheetCarriesWrongFalsely : Prop := fnExactSheetCarriesRow.holds Try.pinned (OpenSpec.ofChange fnExactSheetCarriesWrong)

/-- 'laws.FnExactByHardness': WHATEVER THE INPUT: true; the input reads as it did. -/
def fnExactByHardnessSpec : ChangeSpec := { name := "fnExactByHardness", fn := fun _ => fun
  | [d] => { results := [.lit (.bool true)], args := [d] }
  | _ => none }
def fnExactByHardnessRow : OpenClaim := { program := "ytlmcnlakgjhalaa", sum := "f8bc7312c3b8b9ea1c7e52c89d569cf047a29599c3e54edafd33bc59cfabe055", func := "loop.example/g01006/laws.FnExactByHardness", spec := "fnExactByHardness", apart := false }
def FnExactByHardnessSaid : Prop := fnExactByHardnessRow.holds Try.pinned (OpenSpec.ofChange fnExactByHardnessSpec)

/-- ITS FALSE NEIGHBOUR: 'it returns false'. Refute it at one input. -/
def fnExactByHardnessWrong : ChangeSpec := { name := "fnExactByHardness", fn := fun _ => fun
  | [d] => { results := [.lit (.bool false)], args := [d] }
  | _ => none }
def FnExactByHardnessWrongFalsely : Prop := fnExactByHardnessRow.holds Try.pinned (OpenSpec.ofChange fnExactByHardnessWrong)

/-- 'laws.FnExercises': WHATEVER THE INPUT: true; the input reads as it did. -/
def fnExercisesSpec : ChangeSpec := { name := "fnExercises", fn := fun _ => fun
  | [d] => { results := [.lit (.bool true)], args := [d] }
  | _ => none }
def fnExercisesRow : OpenClaim := { program := "ytlmcnlakgjhalaa", sum := "f8bc7312c3b8b9ea1c7e52c89d569cf047a29599c3e54edafd33bc59cfabe055", func := "loop.example/g01006/laws.FnExercises", spec := "fnExercises", apart := false }
def FnExercisesSaid : Prop := fnExercisesRow.holds Try.pinned (OpenSpec.ofChange fnExercisesSpec)

/-- ITS FALSE NEIGHBOUR: 'it returns false'. Refute it at one input. -/
def fnExercisesWrong : ChangeSpec := { name := "fnExercises", fn := fun _ => fun
  | [d] => { results := [.lit (.bool false)], args := [d] }
  | _ => none }
def FnExercisesWrongFalsely : Prop := fnExercisesRow.holds Try.pinned (OpenSpec.ofChange fnExercisesWrong)

/-- 'laws.FnSheets': WHATEVER THE INPUT: true; the input reads as it did. -/
def fnSheetsSpec : ChangeSpec := { name := "fnSheets", fn := fun _ => fun
  | [d] => { results := [.lit (.bool true)], args := [d] }
  | _ => none }
def fnSheetsRow : OpenClaim := { program := "ytlmcnlakgjhalaa", sum := "f8bc7312c3b8b9ea1c7e52c89d569cf047a29599c3e54edafd33bc59cfabe055", func := "loop.example/g01006/laws.FnSheets", spec := "fnSheets", apart := false }
def FnSheetsSaid : Prop := fnSheetsRow.holds Try.pinned (OpenSpec.ofChange fnSheetsSpec)

/-- ITS FALSE NEIGHBOUR: 'it returns false'. Refute it at one input. -/
def fnSheetsWrong : ChangeSpec := { name := "fnSheets", fn := fun _ => fun
  | [d] => { results := [.lit (.bool false)], args := [d] }
  | _ => none }
def FnSheetsWrongFalsely : Prop := fnSheetsRow.holds Try.pinned (OpenSpec.ofChange fnSheetsWrong)

/- THE SECOND FORM. 'bulk': how many values and letters a reading holds, each counted each time it is reached (what is shared counts as often as it is met; a slice's spare places count too). A statement '..UptoSaid' is the law's where the arguments, and the package variables that the reading takes, are together of bulk at most 1048576: NARROWER than '..Said'. Prove '..Said' where nothing that the law and all that it calls make is longer than what came in: it says more and counts as full. Else prove '..UptoSaid'. A law counts once. -/
mutual
def uptoBulk {H : Type} : DataW H → Nat
  | .lit (.string bytes) => bytes.length + 1
  | .lit _ => 1
  | .nil => 1
  | .ptr d => uptoBulk d + 1
  | .slice elems spare => uptoBulkAll elems + uptoBulkAll spare + 1
  | .agg parts => uptoBulkAll parts + 1
  | .iface _ d => uptoBulk d + 1
  | .map entries => uptoBulkEntries entries + 1
  | .held _ => 1
def uptoBulkAll {H : Type} : List (DataW H) → Nat
  | [] => 0
  | d :: r => uptoBulk d + uptoBulkAll r
def uptoBulkEntries {H : Type} : List (Lit × DataW H) → Nat
  | [] => 0
  | x :: r => uptoBulkEntry x + uptoBulkEntries r
def uptoBulkEntry {H : Type} : Lit × DataW H → Nat
  | (.string bytes, d) => bytes.length + uptoBulk d + 1
  | (_, d) => uptoBulk d + 1
 end
def uptoSmall : (H : Type) → List (DataW H) → Bool := fun _ ds => decide (uptoBulkAll ds ≤ 1048576)
def OpenSpec.upto (s : _root_.Go.ChangeSpec) : _root_.Go.OpenSpec := { _root_.Go.OpenSpec.ofChange s with cond := some uptoSmall }

/-- 'laws.FnExactPartnerFor', WHERE WHAT IT READS IS OF BULK AT MOST 1048576: true; the input reads as it did. -/
def fnExactPartnerForUptoRow : OpenClaim := { program := "ytlmcnlakgjhalaa", sum := "f8bc7312c3b8b9ea1c7e52c89d569cf047a29599c3e54edafd33bc59cfabe055", func := "loop.example/g01006/laws.FnExactPartnerFor", spec := "fnExactPartnerFor", apart := false, narrowed := true }
def FnExactPartnerForUptoSaid : Prop := fnExactPartnerForUptoRow.holds Try.pinned (OpenSpec.upto fnExactPartnerForSpec)

/-- 'laws.FnExactHowMany', WHERE WHAT IT READS IS OF BULK AT MOST 1048576: true; the input reads as it did. -/
def fnExactHowManyUptoRow : OpenClaim := { program := "ytlmcnlakgjhalaa", sum := "f8bc7312c3b8b9ea1c7e52c89d569cf047a29599c3e54edafd33bc59cfabe055", func := "loop.example/g01006/laws.FnExactHowMany", spec := "fnExactHowMany", apart := false, narrowed := true }
def FnExactHowManyUptoSaid : Prop := fnExactHowManyUptoRow.holds Try.pinned (OpenSpec.upto fnExactHowManySpec)

/-- 'laws.FnExactCarryColumns', WHERE WHAT IT READS IS OF BULK AT MOST 1048576: true; the input reads as it did. -/
def fnExactCarryColumnsUptoRow : OpenClaim := { program := "ytlmcnlakgjhalaa", sum := "f8bc7312c3b8b9ea1c7e52c89d569cf047a29599c3e54edafd33bc59cfabe055", func := "loop.example/g01006/laws.FnExactCarryColumns", spec := "fnExactCarryColumns", apart := false, narrowed := true }
def FnExactCarryColumnsUptoSaid : Prop := fnExactCarryColumnsUptoRow.holds Try.pinned (OpenSpec.upto fnExactCarryColumnsSpec)

/-- 'laws.FnExactChainOf', WHERE WHAT IT READS IS OF BULK AT MOST 1048576: true; the input reads as it did. -/
def fnExactChainOfUptoRow : OpenClaim := { program := "ytlmcnlakgjhalaa", sum := "f8bc7312c3b8b9ea1c7e52c89d569cf047a29599c3e54edafd33bc59cfabe055", func := "loop.example/g01006/laws.FnExactChainOf", spec := "fnExactChainOf", apart := false, narrowed := true }
def FnExactChainOfUptoSaid : Prop := fnExactChainOfUptoRow.holds Try.pinned (OpenSpec.upto fnExactChainOfSpec)

/-- 'laws.FnExactSheetTotal', WHERE WHAT IT READS IS OF BULK AT MOST 1048576: true; the input reads as it did. -/
def fnExactSheetTotalUptoRow : OpenClaim := { program := "ytlmcnlakgjhalaa", sum := "f8bc7312c3b8b9ea1c7e52c89d569cf047a29599c3e54edafd33bc59cfabe055", func := "loop.example/g01006/laws.FnExactSheetTotal", spec := "fnExactSheetTotal", apart := false, narrowed := true }
def FnExactSheetTotalUptoSaid : Prop := fnExactSheetTotalUptoRow.holds Try.pinned (OpenSpec.upto fnExactSheetTotalSpec)

/-- 'laws.FnExactFirstOnes', WHERE WHAT IT READS IS OF BULK AT MOST 1048576: true; the input reads as it did. -/
def fnExactFirstOnesUptoRow : OpenClaim := { program := "ytlmcnlakgjhalaa", sum := "f8bc7312c3b8b9ea1c7e52c89d569cf047a29599c3e54edafd33bc59cfabe055", func := "loop.example/g01006/laws.FnExactFirstOnes", spec := "fnExactFirstOnes", apart := false, narrowed := true }
def FnExactFirstOnesUptoSaid : Prop := fnExactFirstOnesUptoRow.holds Try.pinned (OpenSpec.upto fnExactFirstOnesSpec)

/-- 'laws.FnExactNoRepeats', WHERE WHAT IT READS IS OF BULK AT MOST 1048576: true; the input reads as it did. -/
def fnExactNoRepeatsUptoRow : OpenClaim := { program := "ytlmcnlakgjhalaa", sum := "f8bc7312c3b8b9ea1c7e52c89d569cf047a29599c3e54edafd33bc59cfabe055", func := "loop.example/g01006/laws.FnExactNoRepeats", spec := "fnExactNoRepeats", apart := false, narrowed := true }
def FnExactNoRepeatsUptoSaid : Prop := fnExactNoRepeatsUptoRow.holds Try.pinned (OpenSpec.upto fnExactNoRepeatsSpec)

/-- 'laws.FnExactSheetCarries', WHERE WHAT IT READS IS OF BULK AT MOST 1048576: true; the input reads as it did. -/
def fnExactSheetCarriesUptoRow : OpenClaim := { program := "ytlmcnlakgjhalaa", sum := "f8bc7312c3b8b9ea1c7e52c89d569cf047a29599c3e54edafd33bc59cfabe055", func := "loop.example/g01006/laws.FnExactSheetCarries", spec := "fnExactSheetCarries", apart := false, narrowed := true }
def FnExactSheetCarriesUptoSaid : Prop := fnExactSheetCarriesUptoRow.holds Try.pinned (OpenSpec.upto fnExactSheetCarriesSpec)

/-- 'laws.FnExactByHardness', WHERE WHAT IT READS IS OF BULK AT MOST 1048576: true; the input reads as it did. -/
def fnExactByHardnessUptoRow : OpenClaim := { program := "ytlmcnlakgjhalaa", sum := "f8bc7312c3b8b9ea1c7e52c89d569cf047a29599c3e54edafd33bc59cfabe055", func := "loop.example/g01006/laws.FnExactByHardness", spec := "fnExactByHardness", apart := false, narrowed := true }
def FnExactByHardnessUptoSaid : Prop := fnExactByHardnessUptoRow.holds Try.pinned (OpenSpec.upto fnExactByHardnessSpec)

/-- 'laws.FnExercises', WHERE WHAT IT READS IS OF BULK AT MOST 1048576: true; the input reads as it did. -/
def fnExercisesUptoRow : OpenClaim := { program := "ytlmcnlakgjhalaa", sum := "f8bc7312c3b8b9ea1c7e52c89d569cf047a29599c3e54edafd33bc59cfabe055", func := "loop.example/g01006/laws.FnExercises", spec := "fnExercises", apart := false, narrowed := true }
def FnExercisesUptoSaid : Prop := fnExercisesUptoRow.holds Try.pinned (OpenSpec.upto fnExercisesSpec)

/-- 'laws.FnSheets', WHERE WHAT IT READS IS OF BULK AT MOST 1048576: true; the input reads as it did. -/
def fnSheetsUptoRow : OpenClaim := { program := "ytlmcnlakgjhalaa", sum := "f8bc7312c3b8b9ea1c7e52c89d569cf047a29599c3e54edafd33bc59cfabe055", func := "loop.example/g01006/laws.FnSheets", spec := "fnSheets", apart := false, narrowed := true }
def FnSheetsUptoSaid : Prop := fnSheetsUptoRow.holds Try.pinned (OpenSpec.upto fnSheetsSpec)

end Rows
end Go.Proofs.Ytlmcnlakgjhalaa
