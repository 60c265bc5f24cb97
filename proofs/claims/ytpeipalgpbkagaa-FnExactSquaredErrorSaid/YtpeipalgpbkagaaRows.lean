/-
  No cell of these rows narrows 'for every input' (looked for: loops, veiled, ifaces, maps, wideKeys, modest, calm, conditions, laid).
  DERIVED. THE GIVEN ROWS OF THIS SEAT. 9 by the template 'for every input the law returns true; each argument reads behind the call as it read before'; 0 by the template 'total and deterministic' (their statements: YtpeipalgpbkagaaTotals.lean).
  GIVEN WITH THE SEED: the statements are not yours to turn. If you find one false, say at which input.
  Laid BY PROGRAM, IN A SANDBOX (cutbox-rows.mjs): the forced cells as the released guide's own fill.sh prints them over the translation 5417fb56ae1c3b45… (all of the seat's roots in one cut). By AI agents, Wed Nov 11 2026. No macro, syntax, notation, axiom, sorry.
-/
import Derived.Test.YtpeipalgpbkagaaChecked
import GoSem.Claim
import GoSem.ClaimJoined
import GoSem.ClaimMapViews
import Derived.JoinedTies
import Derived.KernelRfl
namespace Go.Proofs.Ytpeipalgpbkagaa
/- THE CELL 'sum', in the pinned program and in every row, IS THE sha256 OF THE DUMP (.gsa) THAT YtpeipalgpbkagaaProg.lean LOADS. Nothing in Lean hashes anything: it is a label: what it is worth is what the hold of that sum in a sandbox is worth. -/
noncomputable def Try.pinned : Pinned := { name := "ytpeipalgpbkagaa", sum := "5417fb56ae1c3b4529d4149a22830d304933a3293d3bc577d66cf2df9d30cfed", checked := Try.checked }
namespace Rows
def none {H : Type} : Left H := { results := [], args := [] }

/-- 'laws.FnExactCompareRollouts': WHATEVER THE INPUT: true; the input reads as it did. -/
def fnExactCompareRolloutsSpec : ChangeSpec := { name := "fnExactCompareRollouts", fn := fun _ => fun
  | [d1, d2, d3, d4] => { results := [.lit (.bool true)], args := [d1, d2, d3, d4] }
  | _ => none }
def fnExactCompareRolloutsRow : OpenClaim := { program := "ytpeipalgpbkagaa", sum := "5417fb56ae1c3b4529d4149a22830d304933a3293d3bc577d66cf2df9d30cfed", func := "loop.example/g00885/laws.FnExactCompareRollouts", spec := "fnExactCompareRollouts", apart := false }
def FnExactCompareRolloutsSaid : Prop := fnExactCompareRolloutsRow.holds Try.pinned (OpenSpec.ofChange fnExactCompareRolloutsSpec)

/-- ITS FALSE NEIGHBOUR: 'it returns false'. Refute it at one input. -/
def fnExactCompareRolloutsWrong : ChangeSpec := { name := "fnExactCompareRollouts", fn := fun _ => fun
  | [d1, d2, d3, d4] => { results := [.lit (.bool false)], args := [d1, d2, d3, d4] }
  | _ => none }
def FnExactCompareRolloutsWrongFalsely : Prop := fnExactCompareRolloutsRow.holds Try.pinned (OpenSpec.ofChange fnExactCompareRolloutsWrong)

/-- 'laws.FnExactEstimateBoard': WHATEVER THE INPUT: true; the input reads as it did. -/
def fnExactEstimateBoardSpec : ChangeSpec := { name := "fnExactEstimateBoard", fn := fun _ => fun
  | [d1, d2] => { results := [.lit (.bool true)], args := [d1, d2] }
  | _ => none }
def fnExactEstimateBoardRow : OpenClaim := { program := "ytpeipalgpbkagaa", sum := "5417fb56ae1c3b4529d4149a22830d304933a3293d3bc577d66cf2df9d30cfed", func := "loop.example/g00885/laws.FnExactEstimateBoard", spec := "fnExactEstimateBoard", apart := false }
def FnExactEstimateBoardSaid : Prop := fnExactEstimateBoardRow.holds Try.pinned (OpenSpec.ofChange fnExactEstimateBoardSpec)

/-- ITS FALSE NEIGHBOUR: 'it returns false'. Refute it at one input. -/
def fnExactEstimateBoardWrong : ChangeSpec := { name := "fnExactEstimateBoard", fn := fun _ => fun
  | [d1, d2] => { results := [.lit (.bool false)], args := [d1, d2] }
  | _ => none }
def FnExactEstimateBoardWrongFalsely : Prop := fnExactEstimateBoardRow.holds Try.pinned (OpenSpec.ofChange fnExactEstimateBoardWrong)

/-- 'laws.FnRadius': WHATEVER THE INPUT: true; the input reads as it did. -/
def fnRadiusSpec : ChangeSpec := { name := "fnRadius", fn := fun _ => fun
  | [d] => { results := [.lit (.bool true)], args := [d] }
  | _ => none }
def fnRadiusRow : OpenClaim := { program := "ytpeipalgpbkagaa", sum := "5417fb56ae1c3b4529d4149a22830d304933a3293d3bc577d66cf2df9d30cfed", func := "loop.example/g00885/laws.FnRadius", spec := "fnRadius", apart := false }
def FnRadiusSaid : Prop := fnRadiusRow.holds Try.pinned (OpenSpec.ofChange fnRadiusSpec)

/-- ITS FALSE NEIGHBOUR: 'it returns false'. Refute it at one input. -/
def fnRadiusWrong : ChangeSpec := { name := "fnRadius", fn := fun _ => fun
  | [d] => { results := [.lit (.bool false)], args := [d] }
  | _ => none }
def FnRadiusWrongFalsely : Prop := fnRadiusRow.holds Try.pinned (OpenSpec.ofChange fnRadiusWrong)

/-- 'laws.FnExactSquaredError': WHATEVER THE INPUT: true; the input reads as it did. -/
def fnExactSquaredErrorSpec : ChangeSpec := { name := "fnExactSquaredError", fn := fun _ => fun
  | [d1, d2, d3] => { results := [.lit (.bool true)], args := [d1, d2, d3] }
  | _ => none }
def fnExactSquaredErrorRow : OpenClaim := { program := "ytpeipalgpbkagaa", sum := "5417fb56ae1c3b4529d4149a22830d304933a3293d3bc577d66cf2df9d30cfed", func := "loop.example/g00885/laws.FnExactSquaredError", spec := "fnExactSquaredError", apart := false }
def FnExactSquaredErrorSaid : Prop := fnExactSquaredErrorRow.holds Try.pinned (OpenSpec.ofChange fnExactSquaredErrorSpec)

/-- ITS FALSE NEIGHBOUR: 'it returns false'. Refute it at one input. -/
def fnExactSquaredErrorWrong : ChangeSpec := { name := "fnExactSquaredError", fn := fun _ => fun
  | [d1, d2, d3] => { results := [.lit (.bool false)], args := [d1, d2, d3] }
  | _ => none }
def FnExactSquaredErrorWrongFalsely : Prop := fnExactSquaredErrorRow.holds Try.pinned (OpenSpec.ofChange fnExactSquaredErrorWrong)

/-- 'laws.FnExactTrainStep': WHATEVER THE INPUT: true; the input reads as it did. -/
def fnExactTrainStepSpec : ChangeSpec := { name := "fnExactTrainStep", fn := fun _ => fun
  | [d1, d2, d3, d4] => { results := [.lit (.bool true)], args := [d1, d2, d3, d4] }
  | _ => none }
def fnExactTrainStepRow : OpenClaim := { program := "ytpeipalgpbkagaa", sum := "5417fb56ae1c3b4529d4149a22830d304933a3293d3bc577d66cf2df9d30cfed", func := "loop.example/g00885/laws.FnExactTrainStep", spec := "fnExactTrainStep", apart := false }
def FnExactTrainStepSaid : Prop := fnExactTrainStepRow.holds Try.pinned (OpenSpec.ofChange fnExactTrainStepSpec)

/-- ITS FALSE NEIGHBOUR: 'it returns false'. Refute it at one input. -/
def fnExactTrainStepWrong : ChangeSpec := { name := "fnExactTrainStep", fn := fun _ => fun
  | [d1, d2, d3, d4] => { results := [.lit (.bool false)], args := [d1, d2, d3, d4] }
  | _ => none }
def FnExactTrainStepWrongFalsely : Prop := fnExactTrainStepRow.holds Try.pinned (OpenSpec.ofChange fnExactTrainStepWrong)

/-- 'laws.FnTrainStep': WHATEVER THE INPUT: true; the input reads as it did. -/
def fnTrainStepSpec : ChangeSpec := { name := "fnTrainStep", fn := fun _ => fun
  | [d] => { results := [.lit (.bool true)], args := [d] }
  | _ => none }
def fnTrainStepRow : OpenClaim := { program := "ytpeipalgpbkagaa", sum := "5417fb56ae1c3b4529d4149a22830d304933a3293d3bc577d66cf2df9d30cfed", func := "loop.example/g00885/laws.FnTrainStep", spec := "fnTrainStep", apart := false }
def FnTrainStepSaid : Prop := fnTrainStepRow.holds Try.pinned (OpenSpec.ofChange fnTrainStepSpec)

/-- ITS FALSE NEIGHBOUR: 'it returns false'. Refute it at one input. -/
def fnTrainStepWrong : ChangeSpec := { name := "fnTrainStep", fn := fun _ => fun
  | [d] => { results := [.lit (.bool false)], args := [d] }
  | _ => none }
def FnTrainStepWrongFalsely : Prop := fnTrainStepRow.holds Try.pinned (OpenSpec.ofChange fnTrainStepWrong)

/-- 'laws.FnExactTrainRounds': WHATEVER THE INPUT: true; the input reads as it did. -/
def fnExactTrainRoundsSpec : ChangeSpec := { name := "fnExactTrainRounds", fn := fun _ => fun
  | [d1, d2, d3, d4, d5] => { results := [.lit (.bool true)], args := [d1, d2, d3, d4, d5] }
  | _ => none }
def fnExactTrainRoundsRow : OpenClaim := { program := "ytpeipalgpbkagaa", sum := "5417fb56ae1c3b4529d4149a22830d304933a3293d3bc577d66cf2df9d30cfed", func := "loop.example/g00885/laws.FnExactTrainRounds", spec := "fnExactTrainRounds", apart := false }
def FnExactTrainRoundsSaid : Prop := fnExactTrainRoundsRow.holds Try.pinned (OpenSpec.ofChange fnExactTrainRoundsSpec)

/-- ITS FALSE NEIGHBOUR: 'it returns false'. Refute it at one input. -/
def fnExactTrainRoundsWrong : ChangeSpec := { name := "fnExactTrainRounds", fn := fun _ => fun
  | [d1, d2, d3, d4, d5] => { results := [.lit (.bool false)], args := [d1, d2, d3, d4, d5] }
  | _ => none }
def FnExactTrainRoundsWrongFalsely : Prop := fnExactTrainRoundsRow.holds Try.pinned (OpenSpec.ofChange fnExactTrainRoundsWrong)

/-- 'laws.FnTrainRounds': WHATEVER THE INPUT: true; the input reads as it did. -/
def fnTrainRoundsSpec : ChangeSpec := { name := "fnTrainRounds", fn := fun _ => fun
  | [d] => { results := [.lit (.bool true)], args := [d] }
  | _ => none }
def fnTrainRoundsRow : OpenClaim := { program := "ytpeipalgpbkagaa", sum := "5417fb56ae1c3b4529d4149a22830d304933a3293d3bc577d66cf2df9d30cfed", func := "loop.example/g00885/laws.FnTrainRounds", spec := "fnTrainRounds", apart := false }
def FnTrainRoundsSaid : Prop := fnTrainRoundsRow.holds Try.pinned (OpenSpec.ofChange fnTrainRoundsSpec)

/-- ITS FALSE NEIGHBOUR: 'it returns false'. Refute it at one input. -/
def fnTrainRoundsWrong : ChangeSpec := { name := "fnTrainRounds", fn := fun _ => fun
  | [d] => { results := [.lit (.bool false)], args := [d] }
  | _ => none }
def FnTrainRoundsWrongFalsely : Prop := fnTrainRoundsRow.holds Try.pinned (OpenSpec.ofChange fnTrainRoundsWrong)

/-- 'laws.FnExactBoardValue': WHATEVER THE INPUT: true; the input reads as it did. -/
def fnExactBoardValueSpec : ChangeSpec := { name := "fnExactBoardValue", fn := fun _ => fun
  | [d1, d2, d3] => { results := [.lit (.bool true)], args := [d1, d2, d3] }
  | _ => none }
def fnExactBoardValueRow : OpenClaim := { program := "ytpeipalgpbkagaa", sum := "5417fb56ae1c3b4529d4149a22830d304933a3293d3bc577d66cf2df9d30cfed", func := "loop.example/g00885/laws.FnExactBoardValue", spec := "fnExactBoardValue", apart := false }
def FnExactBoardValueSaid : Prop := fnExactBoardValueRow.holds Try.pinned (OpenSpec.ofChange fnExactBoardValueSpec)

/-- ITS FALSE NEIGHBOUR: 'it returns false'. Refute it at one input. -/
def fnExactBoardValueWrong : ChangeSpec := { name := "fnExactBoardValue", fn := fun _ => fun
  | [d1, d2, d3] => { results := [.lit (.bool false)], args := [d1, d2, d3] }
  | _ => none }
def FnExactBoardValueWrongFalsely : Prop := fnExactBoardValueRow.holds Try.pinned (OpenSpec.ofChange fnExactBoardValueWrong)

/- THE SECOND FORM. 'bulk': how many values and letters a reading holds, each counted each time it is reached (what is shared counts as often as it is met; a slice's spare places count too). A statement '..UptoSaid' is the law's where the arguments, and the package variables that the reading takes, are together of bulk at most 1048576: NARROWER than '..Said'. Prove '..Said' where nothing that the law and all that it calls make is longer than what came in: it says more and counts as full. Else prove '..UptoSaid'. A law counts once. -/
mutual
def uptoBulk {H : Type} : DataW H → Nat
  | .lit (.string bytes) => bytes.length + 1
  | .lit _ => 1
  | .nil => 1
  | .ptr d => uptoBulk d + 1
  | .slice elems spare => uptoBulkAll elems + uptoBulkAll spare + 1
  | .agg parts => uptoBulkAll parts + 1
  | .iface _ d => uptoBulk d + 1
  | .map entries => uptoBulkEntries entries + 1
  | .held _ => 1
def uptoBulkAll {H : Type} : List (DataW H) → Nat
  | [] => 0
  | d :: r => uptoBulk d + uptoBulkAll r
def uptoBulkEntries {H : Type} : List (Lit × DataW H) → Nat
  | [] => 0
  | x :: r => uptoBulkEntry x + uptoBulkEntries r
def uptoBulkEntry {H : Type} : Lit × DataW H → Nat
  | (.string bytes, d) => bytes.length + uptoBulk d + 1
  | (_, d) => uptoBulk d + 1
 end
def uptoSmall : (H : Type) → List (DataW H) → Bool := fun _ ds => decide (uptoBulkAll ds ≤ 1048576)
def OpenSpec.upto (s : _root_.Go.ChangeSpec) : _root_.Go.OpenSpec := { _root_.Go.OpenSpec.ofChange s with cond := some uptoSmall }

/-- 'laws.FnExactCompareRollouts', WHERE WHAT IT READS IS OF BULK AT MOST 1048576: true; the input reads as it did. -/
def fnExactCompareRolloutsUptoRow : OpenClaim := { program := "ytpeipalgpbkagaa", sum := "5417fb56ae1c3b4529d4149a22830d304933a3293d3bc577d66cf2df9d30cfed", func := "loop.example/g00885/laws.FnExactCompareRollouts", spec := "fnExactCompareRollouts", apart := false, narrowed := true }
def FnExactCompareRolloutsUptoSaid : Prop := fnExactCompareRolloutsUptoRow.holds Try.pinned (OpenSpec.upto fnExactCompareRolloutsSpec)

/-- 'laws.FnExactEstimateBoard', WHERE WHAT IT READS IS OF BULK AT MOST 1048576: true; the input reads as it did. -/
def fnExactEstimateBoardUptoRow : OpenClaim := { program := "ytpeipalgpbkagaa", sum := "5417fb56ae1c3b4529d4149a22830d304933a3293d3bc577d66cf2df9d30cfed", func := "loop.example/g00885/laws.FnExactEstimateBoard", spec := "fnExactEstimateBoard", apart := false, narrowed := true }
def FnExactEstimateBoardUptoSaid : Prop := fnExactEstimateBoardUptoRow.holds Try.pinned (OpenSpec.upto fnExactEstimateBoardSpec)

/-- 'laws.FnRadius', WHERE WHAT IT READS IS OF BULK AT MOST 1048576: true; the input reads as it did. -/
def fnRadiusUptoRow : OpenClaim := { program := "ytpeipalgpbkagaa", sum := "5417fb56ae1c3b4529d4149a22830d304933a3293d3bc577d66cf2df9d30cfed", func := "loop.example/g00885/laws.FnRadius", spec := "fnRadius", apart := false, narrowed := true }
def FnRadiusUptoSaid : Prop := fnRadiusUptoRow.holds Try.pinned (OpenSpec.upto fnRadiusSpec)

/-- 'laws.FnExactSquaredError', WHERE WHAT IT READS IS OF BULK AT MOST 1048576: true; the input reads as it did. -/
def fnExactSquaredErrorUptoRow : OpenClaim := { program := "ytpeipalgpbkagaa", sum := "5417fb56ae1c3b4529d4149a22830d304933a3293d3bc577d66cf2df9d30cfed", func := "loop.example/g00885/laws.FnExactSquaredError", spec := "fnExactSquaredError", apart := false, narrowed := true }
def FnExactSquaredErrorUptoSaid : Prop := fnExactSquaredErrorUptoRow.holds Try.pinned (OpenSpec.upto fnExactSquaredErrorSpec)

/-- 'laws.FnExactTrainStep', WHERE WHAT IT READS IS OF BULK AT MOST 1048576: true; the input reads as it did. -/
def fnExactTrainStepUptoRow : OpenClaim := { program := "ytpeipalgpbkagaa", sum := "5417fb56ae1c3b4529d4149a22830d304933a3293d3bc577d66cf2df9d30cfed", func := "loop.example/g00885/laws.FnExactTrainStep", spec := "fnExactTrainStep", apart := false, narrowed := true }
def FnExactTrainStepUptoSaid : Prop := fnExactTrainStepUptoRow.holds Try.pinned (OpenSpec.upto fnExactTrainStepSpec)

/-- 'laws.FnTrainStep', WHERE WHAT IT READS IS OF BULK AT MOST 1048576: true; the input reads as it did. -/
def fnTrainStepUptoRow : OpenClaim := { program := "ytpeipalgpbkagaa", sum := "5417fb56ae1c3b4529d4149a22830d304933a3293d3bc577d66cf2df9d30cfed", func := "loop.example/g00885/laws.FnTrainStep", spec := "fnTrainStep", apart := false, narrowed := true }
def FnTrainStepUptoSaid : Prop := fnTrainStepUptoRow.holds Try.pinned (OpenSpec.upto fnTrainStepSpec)

/-- 'laws.FnExactTrainRounds', WHERE WHAT IT READS IS OF BULK AT MOST 1048576: true; the input reads as it did. -/
def fnExactTrainRoundsUptoRow : OpenClaim := { program := "ytpeipalgpbkagaa", sum := "5417fb56ae1c3b4529d4149a22830d304933a3293d3bc577d66cf2df9d30cfed", func := "loop.example/g00885/laws.FnExactTrainRounds", spec := "fnExactTrainRounds", apart := false, narrowed := true }
def FnExactTrainRoundsUptoSaid : Prop := fnExactTrainRoundsUptoRow.holds Try.pinned (OpenSpec.upto fnExactTrainRoundsSpec)

/-- 'laws.FnTrainRounds', WHERE WHAT IT READS IS OF BULK AT MOST 1048576: true; the input reads as it did. -/
def fnTrainRoundsUptoRow : OpenClaim := { program := "ytpeipalgpbkagaa", sum := "5417fb56ae1c3b4529d4149a22830d304933a3293d3bc577d66cf2df9d30cfed", func := "loop.example/g00885/laws.FnTrainRounds", spec := "fnTrainRounds", apart := false, narrowed := true }
def FnTrainRoundsUptoSaid : Prop := fnTrainRoundsUptoRow.holds Try.pinned (OpenSpec.upto fnTrainRoundsSpec)

/-- 'laws.FnExactBoardValue', WHERE WHAT IT READS IS OF BULK AT MOST 1048576: true; the input reads as it did. -/
def fnExactBoardValueUptoRow : OpenClaim := { program := "ytpeipalgpbkagaa", sum := "5417fb56ae1c3b4529d4149a22830d304933a3293d3bc577d66cf2df9d30cfed", func := "loop.example/g00885/laws.FnExactBoardValue", spec := "fnExactBoardValue", apart := false, narrowed := true }
def FnExactBoardValueUptoSaid : Prop := fnExactBoardValueUptoRow.holds Try.pinned (OpenSpec.upto fnExactBoardValueSpec)

end Rows
end Go.Proofs.Ytpeipalgpbkagaa
