/-
  No cell of these rows narrows 'for every input' (looked for: loops, veiled, ifaces, maps, wideKeys, modest, calm, conditions, laid).
  DERIVED. THE GIVEN ROWS OF THIS SEAT. 12 by the template 'for every input the law returns true; each argument reads behind the call as it read before'; 0 by the template 'total and deterministic' (their statements: YtnidklakgdmkeaaTotals.lean).
  GIVEN WITH THE SEED: the statements are not yours to turn. If you find one false, say at which input.
  Laid BY PROGRAM, IN A SANDBOX (cutbox-rows.mjs): the forced cells as the released guide's own fill.sh prints them over the translation 61c2a8ac471c90e1… (all of the seat's roots in one cut). By AI agents, Wed Nov 11 2026. No macro, syntax, notation, axiom, sorry.
-/
import Derived.Test.YtnidklakgdmkeaaChecked
import GoSem.Claim
import GoSem.ClaimJoined
import GoSem.ClaimMapViews
import Derived.JoinedTies
import Derived.KernelRfl
namespace Go.Proofs.Ytnidklakgdmkeaa
/- THE CELL 'sum', in the pinned program and in every row, IS THE sha256 OF THE DUMP (.gsa) THAT YtnidklakgdmkeaaProg.lean LOADS. Nothing in Lean hashes anything: it is a label: what it is worth is what the hold of that sum in a sandbox is worth. -/
noncomputable def Try.pinned : Pinned := { name := "ytnidklakgdmkeaa", sum := "61c2a8ac471c90e1e6759b5f6aa24c9288aa590b0e754bea94d4d5fb88488ed0", checked := Try.checked }
namespace Rows
def none {H : Type} : Left H := { results := [], args := [] }

/-- 'laws.FnExactGameSeed': WHATEVER THE INPUT: true; the input reads as it did. -/
def fnExactGameSeedSpec : ChangeSpec := { name := "fnExactGameSeed", fn := fun _ => fun
  | [d1, d2] => { results := [.lit (.bool true)], args := [d1, d2] }
  | _ => none }
def fnExactGameSeedRow : OpenClaim := { program := "ytnidklakgdmkeaa", sum := "61c2a8ac471c90e1e6759b5f6aa24c9288aa590b0e754bea94d4d5fb88488ed0", func := "loop.example/g00885/laws.FnExactGameSeed", spec := "fnExactGameSeed", apart := false }
def FnExactGameSeedSaid : Prop := fnExactGameSeedRow.holds Try.pinned (OpenSpec.ofChange fnExactGameSeedSpec)

/-- ITS FALSE NEIGHBOUR: 'it returns false'. Refute it at one input. -/
def fnExactGameSeedWrong : ChangeSpec := { name := "fnExactGameSeed", fn := fun _ => fun
  | [d1, d2] => { results := [.lit (.bool false)], args := [d1, d2] }
  | _ => none }
def FnExactGameSeedWrongFalsely : Prop := fnExactGameSeedRow.holds Try.pinned (OpenSpec.ofChange fnExactGameSeedWrong)

/-- 'laws.FnExactGamesNeeded': WHATEVER THE INPUT: true; the input reads as it did. -/
def fnExactGamesNeededSpec : ChangeSpec := { name := "fnExactGamesNeeded", fn := fun _ => fun
  | [d1, d2, d3] => { results := [.lit (.bool true)], args := [d1, d2, d3] }
  | _ => none }
def fnExactGamesNeededRow : OpenClaim := { program := "ytnidklakgdmkeaa", sum := "61c2a8ac471c90e1e6759b5f6aa24c9288aa590b0e754bea94d4d5fb88488ed0", func := "loop.example/g00885/laws.FnExactGamesNeeded", spec := "fnExactGamesNeeded", apart := false }
def FnExactGamesNeededSaid : Prop := fnExactGamesNeededRow.holds Try.pinned (OpenSpec.ofChange fnExactGamesNeededSpec)

/-- ITS FALSE NEIGHBOUR: 'it returns false'. Refute it at one input. -/
def fnExactGamesNeededWrong : ChangeSpec := { name := "fnExactGamesNeeded", fn := fun _ => fun
  | [d1, d2, d3] => { results := [.lit (.bool false)], args := [d1, d2, d3] }
  | _ => none }
def FnExactGamesNeededWrongFalsely : Prop := fnExactGamesNeededRow.holds Try.pinned (OpenSpec.ofChange fnExactGamesNeededWrong)

/-- 'laws.FnExactIsRollout': WHATEVER THE INPUT: true; the input reads as it did. -/
def fnExactIsRolloutSpec : ChangeSpec := { name := "fnExactIsRollout", fn := fun _ => fun
  | [d] => { results := [.lit (.bool true)], args := [d] }
  | _ => none }
def fnExactIsRolloutRow : OpenClaim := { program := "ytnidklakgdmkeaa", sum := "61c2a8ac471c90e1e6759b5f6aa24c9288aa590b0e754bea94d4d5fb88488ed0", func := "loop.example/g00885/laws.FnExactIsRollout", spec := "fnExactIsRollout", apart := false }
def FnExactIsRolloutSaid : Prop := fnExactIsRolloutRow.holds Try.pinned (OpenSpec.ofChange fnExactIsRolloutSpec)

/-- ITS FALSE NEIGHBOUR: 'it returns false'. Refute it at one input. -/
def fnExactIsRolloutWrong : ChangeSpec := { name := "fnExactIsRollout", fn := fun _ => fun
  | [d] => { results := [.lit (.bool false)], args := [d] }
  | _ => none }
def FnExactIsRolloutWrongFalsely : Prop := fnExactIsRolloutRow.holds Try.pinned (OpenSpec.ofChange fnExactIsRolloutWrong)

/-- 'laws.FnExactSignTail': WHATEVER THE INPUT: true; the input reads as it did. -/
def fnExactSignTailSpec : ChangeSpec := { name := "fnExactSignTail", fn := fun _ => fun
  | [d1, d2] => { results := [.lit (.bool true)], args := [d1, d2] }
  | _ => none }
def fnExactSignTailRow : OpenClaim := { program := "ytnidklakgdmkeaa", sum := "61c2a8ac471c90e1e6759b5f6aa24c9288aa590b0e754bea94d4d5fb88488ed0", func := "loop.example/g00885/laws.FnExactSignTail", spec := "fnExactSignTail", apart := false }
def FnExactSignTailSaid : Prop := fnExactSignTailRow.holds Try.pinned (OpenSpec.ofChange fnExactSignTailSpec)

/-- ITS FALSE NEIGHBOUR: 'it returns false'. Refute it at one input. -/
def fnExactSignTailWrong : ChangeSpec := { name := "fnExactSignTail", fn := fun _ => fun
  | [d1, d2] => { results := [.lit (.bool false)], args := [d1, d2] }
  | _ => none }
def FnExactSignTailWrongFalsely : Prop := fnExactSignTailRow.holds Try.pinned (OpenSpec.ofChange fnExactSignTailWrong)

/-- 'laws.FnExactIsSignificant': WHATEVER THE INPUT: true; the input reads as it did. -/
def fnExactIsSignificantSpec : ChangeSpec := { name := "fnExactIsSignificant", fn := fun _ => fun
  | [d1, d2, d3] => { results := [.lit (.bool true)], args := [d1, d2, d3] }
  | _ => none }
def fnExactIsSignificantRow : OpenClaim := { program := "ytnidklakgdmkeaa", sum := "61c2a8ac471c90e1e6759b5f6aa24c9288aa590b0e754bea94d4d5fb88488ed0", func := "loop.example/g00885/laws.FnExactIsSignificant", spec := "fnExactIsSignificant", apart := false }
def FnExactIsSignificantSaid : Prop := fnExactIsSignificantRow.holds Try.pinned (OpenSpec.ofChange fnExactIsSignificantSpec)

/-- ITS FALSE NEIGHBOUR: 'it returns false'. Refute it at one input. -/
def fnExactIsSignificantWrong : ChangeSpec := { name := "fnExactIsSignificant", fn := fun _ => fun
  | [d1, d2, d3] => { results := [.lit (.bool false)], args := [d1, d2, d3] }
  | _ => none }
def FnExactIsSignificantWrongFalsely : Prop := fnExactIsSignificantRow.holds Try.pinned (OpenSpec.ofChange fnExactIsSignificantWrong)

/-- 'laws.FnGamesNeeded': WHATEVER THE INPUT: true; the input reads as it did. -/
def fnGamesNeededSpec : ChangeSpec := { name := "fnGamesNeeded", fn := fun _ => fun
  | [d] => { results := [.lit (.bool true)], args := [d] }
  | _ => none }
def fnGamesNeededRow : OpenClaim := { program := "ytnidklakgdmkeaa", sum := "61c2a8ac471c90e1e6759b5f6aa24c9288aa590b0e754bea94d4d5fb88488ed0", func := "loop.example/g00885/laws.FnGamesNeeded", spec := "fnGamesNeeded", apart := false }
def FnGamesNeededSaid : Prop := fnGamesNeededRow.holds Try.pinned (OpenSpec.ofChange fnGamesNeededSpec)

/-- ITS FALSE NEIGHBOUR: 'it returns false'. Refute it at one input. -/
def fnGamesNeededWrong : ChangeSpec := { name := "fnGamesNeeded", fn := fun _ => fun
  | [d] => { results := [.lit (.bool false)], args := [d] }
  | _ => none }
def FnGamesNeededWrongFalsely : Prop := fnGamesNeededRow.holds Try.pinned (OpenSpec.ofChange fnGamesNeededWrong)

/-- 'laws.FnExactSpreadOf': WHATEVER THE INPUT: true; the input reads as it did. -/
def fnExactSpreadOfSpec : ChangeSpec := { name := "fnExactSpreadOf", fn := fun _ => fun
  | [d1, d2] => { results := [.lit (.bool true)], args := [d1, d2] }
  | _ => none }
def fnExactSpreadOfRow : OpenClaim := { program := "ytnidklakgdmkeaa", sum := "61c2a8ac471c90e1e6759b5f6aa24c9288aa590b0e754bea94d4d5fb88488ed0", func := "loop.example/g00885/laws.FnExactSpreadOf", spec := "fnExactSpreadOf", apart := false }
def FnExactSpreadOfSaid : Prop := fnExactSpreadOfRow.holds Try.pinned (OpenSpec.ofChange fnExactSpreadOfSpec)

/-- ITS FALSE NEIGHBOUR: 'it returns false'. Refute it at one input. -/
def fnExactSpreadOfWrong : ChangeSpec := { name := "fnExactSpreadOf", fn := fun _ => fun
  | [d1, d2] => { results := [.lit (.bool false)], args := [d1, d2] }
  | _ => none }
def FnExactSpreadOfWrongFalsely : Prop := fnExactSpreadOfRow.holds Try.pinned (OpenSpec.ofChange fnExactSpreadOfWrong)

/-- 'laws.FnExactRolloutMeans': WHATEVER THE INPUT: true; the input reads as it did. -/
def fnExactRolloutMeansSpec : ChangeSpec := { name := "fnExactRolloutMeans", fn := fun _ => fun
  | [d] => { results := [.lit (.bool true)], args := [d] }
  | _ => none }
def fnExactRolloutMeansRow : OpenClaim := { program := "ytnidklakgdmkeaa", sum := "61c2a8ac471c90e1e6759b5f6aa24c9288aa590b0e754bea94d4d5fb88488ed0", func := "loop.example/g00885/laws.FnExactRolloutMeans", spec := "fnExactRolloutMeans", apart := false }
def FnExactRolloutMeansSaid : Prop := fnExactRolloutMeansRow.holds Try.pinned (OpenSpec.ofChange fnExactRolloutMeansSpec)

/-- ITS FALSE NEIGHBOUR: 'it returns false'. Refute it at one input. -/
def fnExactRolloutMeansWrong : ChangeSpec := { name := "fnExactRolloutMeans", fn := fun _ => fun
  | [d] => { results := [.lit (.bool false)], args := [d] }
  | _ => none }
def FnExactRolloutMeansWrongFalsely : Prop := fnExactRolloutMeansRow.holds Try.pinned (OpenSpec.ofChange fnExactRolloutMeansWrong)

/-- 'laws.FnExactAddRollouts': WHATEVER THE INPUT: true; the input reads as it did. -/
def fnExactAddRolloutsSpec : ChangeSpec := { name := "fnExactAddRollouts", fn := fun _ => fun
  | [d1, d2] => { results := [.lit (.bool true)], args := [d1, d2] }
  | _ => none }
def fnExactAddRolloutsRow : OpenClaim := { program := "ytnidklakgdmkeaa", sum := "61c2a8ac471c90e1e6759b5f6aa24c9288aa590b0e754bea94d4d5fb88488ed0", func := "loop.example/g00885/laws.FnExactAddRollouts", spec := "fnExactAddRollouts", apart := false }
def FnExactAddRolloutsSaid : Prop := fnExactAddRolloutsRow.holds Try.pinned (OpenSpec.ofChange fnExactAddRolloutsSpec)

/-- ITS FALSE NEIGHBOUR: 'it returns false'. Refute it at one input. -/
def fnExactAddRolloutsWrong : ChangeSpec := { name := "fnExactAddRollouts", fn := fun _ => fun
  | [d1, d2] => { results := [.lit (.bool false)], args := [d1, d2] }
  | _ => none }
def FnExactAddRolloutsWrongFalsely : Prop := fnExactAddRolloutsRow.holds Try.pinned (OpenSpec.ofChange fnExactAddRolloutsWrong)

/-- 'laws.FnExactStopAfter': WHATEVER THE INPUT: true; the input reads as it did. -/
def fnExactStopAfterSpec : ChangeSpec := { name := "fnExactStopAfter", fn := fun _ => fun
  | [d1, d2] => { results := [.lit (.bool true)], args := [d1, d2] }
  | _ => none }
def fnExactStopAfterRow : OpenClaim := { program := "ytnidklakgdmkeaa", sum := "61c2a8ac471c90e1e6759b5f6aa24c9288aa590b0e754bea94d4d5fb88488ed0", func := "loop.example/g00885/laws.FnExactStopAfter", spec := "fnExactStopAfter", apart := false }
def FnExactStopAfterSaid : Prop := fnExactStopAfterRow.holds Try.pinned (OpenSpec.ofChange fnExactStopAfterSpec)

/-- ITS FALSE NEIGHBOUR: 'it returns false'. Refute it at one input. -/
def fnExactStopAfterWrong : ChangeSpec := { name := "fnExactStopAfter", fn := fun _ => fun
  | [d1, d2] => { results := [.lit (.bool false)], args := [d1, d2] }
  | _ => none }
def FnExactStopAfterWrongFalsely : Prop := fnExactStopAfterRow.holds Try.pinned (OpenSpec.ofChange fnExactStopAfterWrong)

/-- 'laws.FnSigns': WHATEVER THE INPUT: true; the input reads as it did. -/
def fnSignsSpec : ChangeSpec := { name := "fnSigns", fn := fun _ => fun
  | [d] => { results := [.lit (.bool true)], args := [d] }
  | _ => none }
def fnSignsRow : OpenClaim := { program := "ytnidklakgdmkeaa", sum := "61c2a8ac471c90e1e6759b5f6aa24c9288aa590b0e754bea94d4d5fb88488ed0", func := "loop.example/g00885/laws.FnSigns", spec := "fnSigns", apart := false }
def FnSignsSaid : Prop := fnSignsRow.holds Try.pinned (OpenSpec.ofChange fnSignsSpec)

/-- ITS FALSE NEIGHBOUR: 'it returns false'. Refute it at one input. -/
def fnSignsWrong : ChangeSpec := { name := "fnSigns", fn := fun _ => fun
  | [d] => { results := [.lit (.bool false)], args := [d] }
  | _ => none }
def FnSignsWrongFalsely : Prop := fnSignsRow.holds Try.pinned (OpenSpec.ofChange fnSignsWrong)

/-- 'laws.FnStops': WHATEVER THE INPUT: true; the input reads as it did. -/
def fnStopsSpec : ChangeSpec := { name := "fnStops", fn := fun _ => fun
  | [d] => { results := [.lit (.bool true)], args := [d] }
  | _ => none }
def fnStopsRow : OpenClaim := { program := "ytnidklakgdmkeaa", sum := "61c2a8ac471c90e1e6759b5f6aa24c9288aa590b0e754bea94d4d5fb88488ed0", func := "loop.example/g00885/laws.FnStops", spec := "fnStops", apart := false }
def FnStopsSaid : Prop := fnStopsRow.holds Try.pinned (OpenSpec.ofChange fnStopsSpec)

/-- ITS FALSE NEIGHBOUR: 'it returns false'. Refute it at one input. -/
def fnStopsWrong : ChangeSpec := { name := "fnStops", fn := fun _ => fun
  | [d] => { results := [.lit (.bool false)], args := [d] }
  | _ => none }
def FnStopsWrongFalsely : Prop := fnStopsRow.holds Try.pinned (OpenSpec.ofChange fnStopsWrong)

/- THE SECOND FORM. 'bulk': how many values and letters a reading holds, each counted each time it is reached (what is shared counts as often as it is met; a slice's spare places count too). A statement '..UptoSaid' is the law's where the arguments, and the package variables that the reading takes, are together of bulk at most 1048576: NARROWER than '..Said'. Prove '..Said' where nothing that the law and all that it calls make is longer than what came in: it says more and counts as full. Else prove '..UptoSaid'. A law counts once. -/
mutual
def uptoBulk {H : Type} : DataW H → Nat
  | .lit (.string bytes) => bytes.length + 1
  | .lit _ => 1
  | .nil => 1
  | .ptr d => uptoBulk d + 1
  | .slice elems spare => uptoBulkAll elems + uptoBulkAll spare + 1
  | .agg parts => uptoBulkAll parts + 1
  | .iface _ d => uptoBulk d + 1
  | .map entries => uptoBulkEntries entries + 1
  | .held _ => 1
def uptoBulkAll {H : Type} : List (DataW H) → Nat
  | [] => 0
  | d :: r => uptoBulk d + uptoBulkAll r
def uptoBulkEntries {H : Type} : List (Lit × DataW H) → Nat
  | [] => 0
  | x :: r => uptoBulkEntry x + uptoBulkEntries r
def uptoBulkEntry {H : Type} : Lit × DataW H → Nat
  | (.string bytes, d) => bytes.length + uptoBulk d + 1
  | (_, d) => uptoBulk d + 1
 end
def uptoSmall : (H : Type) → List (DataW H) → Bool := fun _ ds => decide (uptoBulkAll ds ≤ 1048576)
def OpenSpec.upto (s : _root_.Go.ChangeSpec) : _root_.Go.OpenSpec := { _root_.Go.OpenSpec.ofChange s with cond := some uptoSmall }

/-- 'laws.FnExactGameSeed', WHERE WHAT IT READS IS OF BULK AT MOST 1048576: true; the input reads as it did. -/
def fnExactGameSeedUptoRow : OpenClaim := { program := "ytnidklakgdmkeaa", sum := "61c2a8ac471c90e1e6759b5f6aa24c9288aa590b0e754bea94d4d5fb88488ed0", func := "loop.example/g00885/laws.FnExactGameSeed", spec := "fnExactGameSeed", apart := false, narrowed := true }
def FnExactGameSeedUptoSaid : Prop := fnExactGameSeedUptoRow.holds Try.pinned (OpenSpec.upto fnExactGameSeedSpec)

/-- 'laws.FnExactGamesNeeded', WHERE WHAT IT READS IS OF BULK AT MOST 1048576: true; the input reads as it did. -/
def fnExactGamesNeededUptoRow : OpenClaim := { program := "ytnidklakgdmkeaa", sum := "61c2a8ac471c90e1e6759b5f6aa24c9288aa590b0e754bea94d4d5fb88488ed0", func := "loop.example/g00885/laws.FnExactGamesNeeded", spec := "fnExactGamesNeeded", apart := false, narrowed := true }
def FnExactGamesNeededUptoSaid : Prop := fnExactGamesNeededUptoRow.holds Try.pinned (OpenSpec.upto fnExactGamesNeededSpec)

/-- 'laws.FnExactIsRollout', WHERE WHAT IT READS IS OF BULK AT MOST 1048576: true; the input reads as it did. -/
def fnExactIsRolloutUptoRow : OpenClaim := { program := "ytnidklakgdmkeaa", sum := "61c2a8ac471c90e1e6759b5f6aa24c9288aa590b0e754bea94d4d5fb88488ed0", func := "loop.example/g00885/laws.FnExactIsRollout", spec := "fnExactIsRollout", apart := false, narrowed := true }
def FnExactIsRolloutUptoSaid : Prop := fnExactIsRolloutUptoRow.holds Try.pinned (OpenSpec.upto fnExactIsRolloutSpec)

/-- 'laws.FnExactSignTail', WHERE WHAT IT READS IS OF BULK AT MOST 1048576: true; the input reads as it did. -/
def fnExactSignTailUptoRow : OpenClaim := { program := "ytnidklakgdmkeaa", sum := "61c2a8ac471c90e1e6759b5f6aa24c9288aa590b0e754bea94d4d5fb88488ed0", func := "loop.example/g00885/laws.FnExactSignTail", spec := "fnExactSignTail", apart := false, narrowed := true }
def FnExactSignTailUptoSaid : Prop := fnExactSignTailUptoRow.holds Try.pinned (OpenSpec.upto fnExactSignTailSpec)

/-- 'laws.FnExactIsSignificant', WHERE WHAT IT READS IS OF BULK AT MOST 1048576: true; the input reads as it did. -/
def fnExactIsSignificantUptoRow : OpenClaim := { program := "ytnidklakgdmkeaa", sum := "61c2a8ac471c90e1e6759b5f6aa24c9288aa590b0e754bea94d4d5fb88488ed0", func := "loop.example/g00885/laws.FnExactIsSignificant", spec := "fnExactIsSignificant", apart := false, narrowed := true }
def FnExactIsSignificantUptoSaid : Prop := fnExactIsSignificantUptoRow.holds Try.pinned (OpenSpec.upto fnExactIsSignificantSpec)

/-- 'laws.FnGamesNeeded', WHERE WHAT IT READS IS OF BULK AT MOST 1048576: true; the input reads as it did. -/
def fnGamesNeededUptoRow : OpenClaim := { program := "ytnidklakgdmkeaa", sum := "61c2a8ac471c90e1e6759b5f6aa24c9288aa590b0e754bea94d4d5fb88488ed0", func := "loop.example/g00885/laws.FnGamesNeeded", spec := "fnGamesNeeded", apart := false, narrowed := true }
def FnGamesNeededUptoSaid : Prop := fnGamesNeededUptoRow.holds Try.pinned (OpenSpec.upto fnGamesNeededSpec)

/-- 'laws.FnExactSpreadOf', WHERE WHAT IT READS IS OF BULK AT MOST 1048576: true; the input reads as it did. -/
def fnExactSpreadOfUptoRow : OpenClaim := { program := "ytnidklakgdmkeaa", sum := "61c2a8ac471c90e1e6759b5f6aa24c9288aa590b0e754bea94d4d5fb88488ed0", func := "loop.example/g00885/laws.FnExactSpreadOf", spec := "fnExactSpreadOf", apart := false, narrowed := true }
def FnExactSpreadOfUptoSaid : Prop := fnExactSpreadOfUptoRow.holds Try.pinned (OpenSpec.upto fnExactSpreadOfSpec)

/-- 'laws.FnExactRolloutMeans', WHERE WHAT IT READS IS OF BULK AT MOST 1048576: true; the input reads as it did. -/
def fnExactRolloutMeansUptoRow : OpenClaim := { program := "ytnidklakgdmkeaa", sum := "61c2a8ac471c90e1e6759b5f6aa24c9288aa590b0e754bea94d4d5fb88488ed0", func := "loop.example/g00885/laws.FnExactRolloutMeans", spec := "fnExactRolloutMeans", apart := false, narrowed := true }
def FnExactRolloutMeansUptoSaid : Prop := fnExactRolloutMeansUptoRow.holds Try.pinned (OpenSpec.upto fnExactRolloutMeansSpec)

/-- 'laws.FnExactAddRollouts', WHERE WHAT IT READS IS OF BULK AT MOST 1048576: true; the input reads as it did. -/
def fnExactAddRolloutsUptoRow : OpenClaim := { program := "ytnidklakgdmkeaa", sum := "61c2a8ac471c90e1e6759b5f6aa24c9288aa590b0e754bea94d4d5fb88488ed0", func := "loop.example/g00885/laws.FnExactAddRollouts", spec := "fnExactAddRollouts", apart := false, narrowed := true }
def FnExactAddRolloutsUptoSaid : Prop := fnExactAddRolloutsUptoRow.holds Try.pinned (OpenSpec.upto fnExactAddRolloutsSpec)

/-- 'laws.FnExactStopAfter', WHERE WHAT IT READS IS OF BULK AT MOST 1048576: true; the input reads as it did. -/
def fnExactStopAfterUptoRow : OpenClaim := { program := "ytnidklakgdmkeaa", sum := "61c2a8ac471c90e1e6759b5f6aa24c9288aa590b0e754bea94d4d5fb88488ed0", func := "loop.example/g00885/laws.FnExactStopAfter", spec := "fnExactStopAfter", apart := false, narrowed := true }
def FnExactStopAfterUptoSaid : Prop := fnExactStopAfterUptoRow.holds Try.pinned (OpenSpec.upto fnExactStopAfterSpec)

/-- 'laws.FnSigns', WHERE WHAT IT READS IS OF BULK AT MOST 1048576: true; the input reads as it did. -/
def fnSignsUptoRow : OpenClaim := { program := "ytnidklakgdmkeaa", sum := "61c2a8ac471c90e1e6759b5f6aa24c9288aa590b0e754bea94d4d5fb88488ed0", func := "loop.example/g00885/laws.FnSigns", spec := "fnSigns", apart := false, narrowed := true }
def FnSignsUptoSaid : Prop := fnSignsUptoRow.holds Try.pinned (OpenSpec.upto fnSignsSpec)

/-- 'laws.FnStops', WHERE WHAT IT READS IS OF BULK AT MOST 1048576: true; the input reads as it did. -/
def fnStopsUptoRow : OpenClaim := { program := "ytnidklakgdmkeaa", sum := "61c2a8ac471c90e1e6759b5f6aa24c9288aa590b0e754bea94d4d5fb88488ed0", func := "loop.example/g00885/laws.FnStops", spec := "fnStops", apart := false, narrowed := true }
def FnStopsUptoSaid : Prop := fnStopsUptoRow.holds Try.pinned (OpenSpec.upto fnStopsSpec)

end Rows
end Go.Proofs.Ytnidklakgdmkeaa
