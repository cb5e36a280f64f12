/-
  No cell of these rows narrows 'for every input' (looked for: loops, veiled, ifaces, maps, wideKeys, modest, calm, conditions, laid).
  DERIVED. THE GIVEN ROWS OF THIS SEAT. 12 by the template 'for every input the law returns true; each argument reads behind the call as it read before'; 0 by the template 'total and deterministic' (their statements: YtkhiffenaiakhaaTotals.lean).
  GIVEN WITH THE SEED: the statements are not yours to turn. If you find one false, say at which input.
  Laid BY PROGRAM, IN A SANDBOX (cutbox-rows.mjs): the forced cells as the released guide's own fill.sh prints them over the translation 88e8e4308f577b48… (all of the seat's roots in one cut). By AI agents, Wed Nov 11 2026. No macro, syntax, notation, axiom, sorry.
-/
import Derived.Test.YtkhiffenaiakhaaChecked
import GoSem.Claim
import GoSem.ClaimJoined
import GoSem.ClaimMapViews
import Derived.JoinedTies
import Derived.KernelRfl
namespace Go.Proofs.Ytkhiffenaiakhaa
/- THE CELL 'sum', in the pinned program and in every row, IS THE sha256 OF THE DUMP (.gsa) THAT YtkhiffenaiakhaaProg.lean LOADS. Nothing in Lean hashes anything: it is a label: what it is worth is what the hold of that sum in a sandbox is worth. -/
noncomputable def Try.pinned : Pinned := { name := "ytkhiffenaiakhaa", sum := "88e8e4308f577b48603417c2db88f86e74496bafd06452049d7c69d87eeffb71", checked := Try.checked }
namespace Rows
def none {H : Type} : Left H := { results := [], args := [] }

/-- 'laws.FnExactBorderOk': WHATEVER THE INPUT: true; the input reads as it did. -/
def fnExactBorderOkSpec : ChangeSpec := { name := "fnExactBorderOk", fn := fun _ => fun
  | [d] => { results := [.lit (.bool true)], args := [d] }
  | _ => none }
def fnExactBorderOkRow : OpenClaim := { program := "ytkhiffenaiakhaa", sum := "88e8e4308f577b48603417c2db88f86e74496bafd06452049d7c69d87eeffb71", func := "loop.example/g03304/laws.FnExactBorderOk", spec := "fnExactBorderOk", apart := false }
def FnExactBorderOkSaid : Prop := fnExactBorderOkRow.holds Try.pinned (OpenSpec.ofChange fnExactBorderOkSpec)

/-- ITS FALSE NEIGHBOUR: 'it returns false'. Refute it at one input. -/
def fnExactBorderOkWrong : ChangeSpec := { name := "fnExactBorderOk", fn := fun _ => fun
  | [d] => { results := [.lit (.bool false)], args := [d] }
  | _ => none }
def FnExactBorderOkWrongFalsely : Prop := fnExactBorderOkRow.holds Try.pinned (OpenSpec.ofChange fnExactBorderOkWrong)

/-- 'laws.FnExactCutSize': WHATEVER THE INPUT: true; the input reads as it did. -/
def fnExactCutSizeSpec : ChangeSpec := { name := "fnExactCutSize", fn := fun _ => fun
  | [d] => { results := [.lit (.bool true)], args := [d] }
  | _ => none }
def fnExactCutSizeRow : OpenClaim := { program := "ytkhiffenaiakhaa", sum := "88e8e4308f577b48603417c2db88f86e74496bafd06452049d7c69d87eeffb71", func := "loop.example/g03304/laws.FnExactCutSize", spec := "fnExactCutSize", apart := false }
def FnExactCutSizeSaid : Prop := fnExactCutSizeRow.holds Try.pinned (OpenSpec.ofChange fnExactCutSizeSpec)

/-- ITS FALSE NEIGHBOUR: 'it returns false'. Refute it at one input. -/
def fnExactCutSizeWrong : ChangeSpec := { name := "fnExactCutSize", fn := fun _ => fun
  | [d] => { results := [.lit (.bool false)], args := [d] }
  | _ => none }
def FnExactCutSizeWrongFalsely : Prop := fnExactCutSizeRow.holds Try.pinned (OpenSpec.ofChange fnExactCutSizeWrong)

/-- 'laws.FnExactDriftOf': WHATEVER THE INPUT: true; the input reads as it did. -/
def fnExactDriftOfSpec : ChangeSpec := { name := "fnExactDriftOf", fn := fun _ => fun
  | [d1, d2] => { results := [.lit (.bool true)], args := [d1, d2] }
  | _ => none }
def fnExactDriftOfRow : OpenClaim := { program := "ytkhiffenaiakhaa", sum := "88e8e4308f577b48603417c2db88f86e74496bafd06452049d7c69d87eeffb71", func := "loop.example/g03304/laws.FnExactDriftOf", spec := "fnExactDriftOf", apart := false }
def FnExactDriftOfSaid : Prop := fnExactDriftOfRow.holds Try.pinned (OpenSpec.ofChange fnExactDriftOfSpec)

/-- ITS FALSE NEIGHBOUR: 'it returns false'. Refute it at one input. -/
def fnExactDriftOfWrong : ChangeSpec := { name := "fnExactDriftOf", fn := fun _ => fun
  | [d1, d2] => { results := [.lit (.bool false)], args := [d1, d2] }
  | _ => none }
def FnExactDriftOfWrongFalsely : Prop := fnExactDriftOfRow.holds Try.pinned (OpenSpec.ofChange fnExactDriftOfWrong)

/-- 'laws.FnExactFinishedSize': WHATEVER THE INPUT: true; the input reads as it did. -/
def fnExactFinishedSizeSpec : ChangeSpec := { name := "fnExactFinishedSize", fn := fun _ => fun
  | [d] => { results := [.lit (.bool true)], args := [d] }
  | _ => none }
def fnExactFinishedSizeRow : OpenClaim := { program := "ytkhiffenaiakhaa", sum := "88e8e4308f577b48603417c2db88f86e74496bafd06452049d7c69d87eeffb71", func := "loop.example/g03304/laws.FnExactFinishedSize", spec := "fnExactFinishedSize", apart := false }
def FnExactFinishedSizeSaid : Prop := fnExactFinishedSizeRow.holds Try.pinned (OpenSpec.ofChange fnExactFinishedSizeSpec)

/-- ITS FALSE NEIGHBOUR: 'it returns false'. Refute it at one input. -/
def fnExactFinishedSizeWrong : ChangeSpec := { name := "fnExactFinishedSize", fn := fun _ => fun
  | [d] => { results := [.lit (.bool false)], args := [d] }
  | _ => none }
def FnExactFinishedSizeWrongFalsely : Prop := fnExactFinishedSizeRow.holds Try.pinned (OpenSpec.ofChange fnExactFinishedSizeWrong)

/-- 'laws.FnExactMayTurn': WHATEVER THE INPUT: true; the input reads as it did. -/
def fnExactMayTurnSpec : ChangeSpec := { name := "fnExactMayTurn", fn := fun _ => fun
  | [d1, d2] => { results := [.lit (.bool true)], args := [d1, d2] }
  | _ => none }
def fnExactMayTurnRow : OpenClaim := { program := "ytkhiffenaiakhaa", sum := "88e8e4308f577b48603417c2db88f86e74496bafd06452049d7c69d87eeffb71", func := "loop.example/g03304/laws.FnExactMayTurn", spec := "fnExactMayTurn", apart := false }
def FnExactMayTurnSaid : Prop := fnExactMayTurnRow.holds Try.pinned (OpenSpec.ofChange fnExactMayTurnSpec)

/-- ITS FALSE NEIGHBOUR: 'it returns false'. Refute it at one input. -/
def fnExactMayTurnWrong : ChangeSpec := { name := "fnExactMayTurn", fn := fun _ => fun
  | [d1, d2] => { results := [.lit (.bool false)], args := [d1, d2] }
  | _ => none }
def FnExactMayTurnWrongFalsely : Prop := fnExactMayTurnRow.holds Try.pinned (OpenSpec.ofChange fnExactMayTurnWrong)

/-- 'laws.FnExactTriangleSide': WHATEVER THE INPUT: true; the input reads as it did. -/
def fnExactTriangleSideSpec : ChangeSpec := { name := "fnExactTriangleSide", fn := fun _ => fun
  | [d] => { results := [.lit (.bool true)], args := [d] }
  | _ => none }
def fnExactTriangleSideRow : OpenClaim := { program := "ytkhiffenaiakhaa", sum := "88e8e4308f577b48603417c2db88f86e74496bafd06452049d7c69d87eeffb71", func := "loop.example/g03304/laws.FnExactTriangleSide", spec := "fnExactTriangleSide", apart := false }
def FnExactTriangleSideSaid : Prop := fnExactTriangleSideRow.holds Try.pinned (OpenSpec.ofChange fnExactTriangleSideSpec)

/-- ITS FALSE NEIGHBOUR: 'it returns false'. Refute it at one input. -/
def fnExactTriangleSideWrong : ChangeSpec := { name := "fnExactTriangleSide", fn := fun _ => fun
  | [d] => { results := [.lit (.bool false)], args := [d] }
  | _ => none }
def FnExactTriangleSideWrongFalsely : Prop := fnExactTriangleSideRow.holds Try.pinned (OpenSpec.ofChange fnExactTriangleSideWrong)

/-- 'laws.FnCuts': WHATEVER THE INPUT: true; the input reads as it did. -/
def fnCutsSpec : ChangeSpec := { name := "fnCuts", fn := fun _ => fun
  | [d] => { results := [.lit (.bool true)], args := [d] }
  | _ => none }
def fnCutsRow : OpenClaim := { program := "ytkhiffenaiakhaa", sum := "88e8e4308f577b48603417c2db88f86e74496bafd06452049d7c69d87eeffb71", func := "loop.example/g03304/laws.FnCuts", spec := "fnCuts", recurses := true, apart := false }
def FnCutsSaid : Prop := fnCutsRow.holds Try.pinned (OpenSpec.ofChange fnCutsSpec)

/-- ITS FALSE NEIGHBOUR: 'it returns false'. Refute it at one input. -/
def fnCutsWrong : ChangeSpec := { name := "fnCuts", fn := fun _ => fun
  | [d] => { results := [.lit (.bool false)], args := [d] }
  | _ => none }
def FnCutsWrongFalsely : Prop := fnCutsRow.holds Try.pinned (OpenSpec.ofChange fnCutsWrong)

/-- 'laws.FnExactFitsBorder': WHATEVER THE INPUT: true; the input reads as it did. -/
def fnExactFitsBorderSpec : ChangeSpec := { name := "fnExactFitsBorder", fn := fun _ => fun
  | [d1, d2, d3] => { results := [.lit (.bool true)], args := [d1, d2, d3] }
  | _ => none }
def fnExactFitsBorderRow : OpenClaim := { program := "ytkhiffenaiakhaa", sum := "88e8e4308f577b48603417c2db88f86e74496bafd06452049d7c69d87eeffb71", func := "loop.example/g03304/laws.FnExactFitsBorder", spec := "fnExactFitsBorder", apart := false }
def FnExactFitsBorderSaid : Prop := fnExactFitsBorderRow.holds Try.pinned (OpenSpec.ofChange fnExactFitsBorderSpec)

/-- ITS FALSE NEIGHBOUR: 'it returns false'. Refute it at one input. -/
def fnExactFitsBorderWrong : ChangeSpec := { name := "fnExactFitsBorder", fn := fun _ => fun
  | [d1, d2, d3] => { results := [.lit (.bool false)], args := [d1, d2, d3] }
  | _ => none }
def FnExactFitsBorderWrongFalsely : Prop := fnExactFitsBorderRow.holds Try.pinned (OpenSpec.ofChange fnExactFitsBorderWrong)

/-- 'laws.FnExactOuterSize': WHATEVER THE INPUT: true; the input reads as it did. -/
def fnExactOuterSizeSpec : ChangeSpec := { name := "fnExactOuterSize", fn := fun _ => fun
  | [d1, d2, d3] => { results := [.lit (.bool true)], args := [d1, d2, d3] }
  | _ => none }
def fnExactOuterSizeRow : OpenClaim := { program := "ytkhiffenaiakhaa", sum := "88e8e4308f577b48603417c2db88f86e74496bafd06452049d7c69d87eeffb71", func := "loop.example/g03304/laws.FnExactOuterSize", spec := "fnExactOuterSize", apart := false }
def FnExactOuterSizeSaid : Prop := fnExactOuterSizeRow.holds Try.pinned (OpenSpec.ofChange fnExactOuterSizeSpec)

/-- ITS FALSE NEIGHBOUR: 'it returns false'. Refute it at one input. -/
def fnExactOuterSizeWrong : ChangeSpec := { name := "fnExactOuterSize", fn := fun _ => fun
  | [d1, d2, d3] => { results := [.lit (.bool false)], args := [d1, d2, d3] }
  | _ => none }
def FnExactOuterSizeWrongFalsely : Prop := fnExactOuterSizeRow.holds Try.pinned (OpenSpec.ofChange fnExactOuterSizeWrong)

/-- 'laws.FnExactSpacerFor': WHATEVER THE INPUT: true; the input reads as it did. -/
def fnExactSpacerForSpec : ChangeSpec := { name := "fnExactSpacerFor", fn := fun _ => fun
  | [d1, d2, d3] => { results := [.lit (.bool true)], args := [d1, d2, d3] }
  | _ => none }
def fnExactSpacerForRow : OpenClaim := { program := "ytkhiffenaiakhaa", sum := "88e8e4308f577b48603417c2db88f86e74496bafd06452049d7c69d87eeffb71", func := "loop.example/g03304/laws.FnExactSpacerFor", spec := "fnExactSpacerFor", apart := false }
def FnExactSpacerForSaid : Prop := fnExactSpacerForRow.holds Try.pinned (OpenSpec.ofChange fnExactSpacerForSpec)

/-- ITS FALSE NEIGHBOUR: 'it returns false'. Refute it at one input. -/
def fnExactSpacerForWrong : ChangeSpec := { name := "fnExactSpacerFor", fn := fun _ => fun
  | [d1, d2, d3] => { results := [.lit (.bool false)], args := [d1, d2, d3] }
  | _ => none }
def FnExactSpacerForWrongFalsely : Prop := fnExactSpacerForRow.holds Try.pinned (OpenSpec.ofChange fnExactSpacerForWrong)

/-- 'laws.FnExactBestUnit': WHATEVER THE INPUT: true; the input reads as it did. -/
def fnExactBestUnitSpec : ChangeSpec := { name := "fnExactBestUnit", fn := fun _ => fun
  | [d1, d2, d3, d4] => { results := [.lit (.bool true)], args := [d1, d2, d3, d4] }
  | _ => none }
def fnExactBestUnitRow : OpenClaim := { program := "ytkhiffenaiakhaa", sum := "88e8e4308f577b48603417c2db88f86e74496bafd06452049d7c69d87eeffb71", func := "loop.example/g03304/laws.FnExactBestUnit", spec := "fnExactBestUnit", apart := false }
def FnExactBestUnitSaid : Prop := fnExactBestUnitRow.holds Try.pinned (OpenSpec.ofChange fnExactBestUnitSpec)

/-- ITS FALSE NEIGHBOUR: 'it returns false'. Refute it at one input. -/
def fnExactBestUnitWrong : ChangeSpec := { name := "fnExactBestUnit", fn := fun _ => fun
  | [d1, d2, d3, d4] => { results := [.lit (.bool false)], args := [d1, d2, d3, d4] }
  | _ => none }
def FnExactBestUnitWrongFalsely : Prop := fnExactBestUnitRow.holds Try.pinned (OpenSpec.ofChange fnExactBestUnitWrong)

/-- 'laws.FnExactUnitsAround': WHATEVER THE INPUT: true; the input reads as it did. -/
def fnExactUnitsAroundSpec : ChangeSpec := { name := "fnExactUnitsAround", fn := fun _ => fun
  | [d1, d2, d3] => { results := [.lit (.bool true)], args := [d1, d2, d3] }
  | _ => none }
def fnExactUnitsAroundRow : OpenClaim := { program := "ytkhiffenaiakhaa", sum := "88e8e4308f577b48603417c2db88f86e74496bafd06452049d7c69d87eeffb71", func := "loop.example/g03304/laws.FnExactUnitsAround", spec := "fnExactUnitsAround", apart := false }
def FnExactUnitsAroundSaid : Prop := fnExactUnitsAroundRow.holds Try.pinned (OpenSpec.ofChange fnExactUnitsAroundSpec)

/-- ITS FALSE NEIGHBOUR: 'it returns false'. Refute it at one input. -/
def fnExactUnitsAroundWrong : ChangeSpec := { name := "fnExactUnitsAround", fn := fun _ => fun
  | [d1, d2, d3] => { results := [.lit (.bool false)], args := [d1, d2, d3] }
  | _ => none }
def FnExactUnitsAroundWrongFalsely : Prop := fnExactUnitsAroundRow.holds Try.pinned (OpenSpec.ofChange fnExactUnitsAroundWrong)

/- THE SECOND FORM. 'bulk': how many values and letters a reading holds, each counted each time it is reached (what is shared counts as often as it is met; a slice's spare places count too). A statement '..UptoSaid' is the law's where the arguments, and the package variables that the reading takes, are together of bulk at most 1048576: NARROWER than '..Said'. Prove '..Said' where nothing that the law and all that it calls make is longer than what came in: it says more and counts as full. Else prove '..UptoSaid'. A law counts once. -/
mutual
def uptoBulk {H : Type} : DataW H → Nat
  | .lit (.string bytes) => bytes.length + 1
  | .lit _ => 1
  | .nil => 1
  | .ptr d => uptoBulk d + 1
  | .slice elems spare => uptoBulkAll elems + uptoBulkAll spare + 1
  | .agg parts => uptoBulkAll parts + 1
  | .iface _ d => uptoBulk d + 1
  | .map entries => uptoBulkEntries entries + 1
  | .held _ => 1
def uptoBulkAll {H : Type} : List (DataW H) → Nat
  | [] => 0
  | d :: r => uptoBulk d + uptoBulkAll r
def uptoBulkEntries {H : Type} : List (Lit × DataW H) → Nat
  | [] => 0
  | x :: r => uptoBulkEntry x + uptoBulkEntries r
def uptoBulkEntry {H : Type} : Lit × DataW H → Nat
  | (.string bytes, d) => bytes.length + uptoBulk d + 1
  | (_, d) => uptoBulk d + 1
 end
def uptoSmall : (H : Type) → List (DataW H) → Bool := fun _ ds => decide (uptoBulkAll ds ≤ 1048576)
def OpenSpec.upto (s : _root_.Go.ChangeSpec) : _root_.Go.OpenSpec := { _root_.Go.OpenSpec.ofChange s with cond := some uptoSmall }

/-- 'laws.FnExactBorderOk', WHERE WHAT IT READS IS OF BULK AT MOST 1048576: true; the input reads as it did. -/
def fnExactBorderOkUptoRow : OpenClaim := { program := "ytkhiffenaiakhaa", sum := "88e8e4308f577b48603417c2db88f86e74496bafd06452049d7c69d87eeffb71", func := "loop.example/g03304/laws.FnExactBorderOk", spec := "fnExactBorderOk", apart := false, narrowed := true }
def FnExactBorderOkUptoSaid : Prop := fnExactBorderOkUptoRow.holds Try.pinned (OpenSpec.upto fnExactBorderOkSpec)

/-- 'laws.FnExactCutSize', WHERE WHAT IT READS IS OF BULK AT MOST 1048576: true; the input reads as it did. -/
def fnExactCutSizeUptoRow : OpenClaim := { program := "ytkhiffenaiakhaa", sum := "88e8e4308f577b48603417c2db88f86e74496bafd06452049d7c69d87eeffb71", func := "loop.example/g03304/laws.FnExactCutSize", spec := "fnExactCutSize", apart := false, narrowed := true }
def FnExactCutSizeUptoSaid : Prop := fnExactCutSizeUptoRow.holds Try.pinned (OpenSpec.upto fnExactCutSizeSpec)

/-- 'laws.FnExactDriftOf', WHERE WHAT IT READS IS OF BULK AT MOST 1048576: true; the input reads as it did. -/
def fnExactDriftOfUptoRow : OpenClaim := { program := "ytkhiffenaiakhaa", sum := "88e8e4308f577b48603417c2db88f86e74496bafd06452049d7c69d87eeffb71", func := "loop.example/g03304/laws.FnExactDriftOf", spec := "fnExactDriftOf", apart := false, narrowed := true }
def FnExactDriftOfUptoSaid : Prop := fnExactDriftOfUptoRow.holds Try.pinned (OpenSpec.upto fnExactDriftOfSpec)

/-- 'laws.FnExactFinishedSize', WHERE WHAT IT READS IS OF BULK AT MOST 1048576: true; the input reads as it did. -/
def fnExactFinishedSizeUptoRow : OpenClaim := { program := "ytkhiffenaiakhaa", sum := "88e8e4308f577b48603417c2db88f86e74496bafd06452049d7c69d87eeffb71", func := "loop.example/g03304/laws.FnExactFinishedSize", spec := "fnExactFinishedSize", apart := false, narrowed := true }
def FnExactFinishedSizeUptoSaid : Prop := fnExactFinishedSizeUptoRow.holds Try.pinned (OpenSpec.upto fnExactFinishedSizeSpec)

/-- 'laws.FnExactMayTurn', WHERE WHAT IT READS IS OF BULK AT MOST 1048576: true; the input reads as it did. -/
def fnExactMayTurnUptoRow : OpenClaim := { program := "ytkhiffenaiakhaa", sum := "88e8e4308f577b48603417c2db88f86e74496bafd06452049d7c69d87eeffb71", func := "loop.example/g03304/laws.FnExactMayTurn", spec := "fnExactMayTurn", apart := false, narrowed := true }
def FnExactMayTurnUptoSaid : Prop := fnExactMayTurnUptoRow.holds Try.pinned (OpenSpec.upto fnExactMayTurnSpec)

/-- 'laws.FnExactTriangleSide', WHERE WHAT IT READS IS OF BULK AT MOST 1048576: true; the input reads as it did. -/
def fnExactTriangleSideUptoRow : OpenClaim := { program := "ytkhiffenaiakhaa", sum := "88e8e4308f577b48603417c2db88f86e74496bafd06452049d7c69d87eeffb71", func := "loop.example/g03304/laws.FnExactTriangleSide", spec := "fnExactTriangleSide", apart := false, narrowed := true }
def FnExactTriangleSideUptoSaid : Prop := fnExactTriangleSideUptoRow.holds Try.pinned (OpenSpec.upto fnExactTriangleSideSpec)

/-- 'laws.FnCuts', WHERE WHAT IT READS IS OF BULK AT MOST 1048576: true; the input reads as it did. -/
def fnCutsUptoRow : OpenClaim := { program := "ytkhiffenaiakhaa", sum := "88e8e4308f577b48603417c2db88f86e74496bafd06452049d7c69d87eeffb71", func := "loop.example/g03304/laws.FnCuts", spec := "fnCuts", recurses := true, apart := false, narrowed := true }
def FnCutsUptoSaid : Prop := fnCutsUptoRow.holds Try.pinned (OpenSpec.upto fnCutsSpec)

/-- 'laws.FnExactFitsBorder', WHERE WHAT IT READS IS OF BULK AT MOST 1048576: true; the input reads as it did. -/
def fnExactFitsBorderUptoRow : OpenClaim := { program := "ytkhiffenaiakhaa", sum := "88e8e4308f577b48603417c2db88f86e74496bafd06452049d7c69d87eeffb71", func := "loop.example/g03304/laws.FnExactFitsBorder", spec := "fnExactFitsBorder", apart := false, narrowed := true }
def FnExactFitsBorderUptoSaid : Prop := fnExactFitsBorderUptoRow.holds Try.pinned (OpenSpec.upto fnExactFitsBorderSpec)

/-- 'laws.FnExactOuterSize', WHERE WHAT IT READS IS OF BULK AT MOST 1048576: true; the input reads as it did. -/
def fnExactOuterSizeUptoRow : OpenClaim := { program := "ytkhiffenaiakhaa", sum := "88e8e4308f577b48603417c2db88f86e74496bafd06452049d7c69d87eeffb71", func := "loop.example/g03304/laws.FnExactOuterSize", spec := "fnExactOuterSize", apart := false, narrowed := true }
def FnExactOuterSizeUptoSaid : Prop := fnExactOuterSizeUptoRow.holds Try.pinned (OpenSpec.upto fnExactOuterSizeSpec)

/-- 'laws.FnExactSpacerFor', WHERE WHAT IT READS IS OF BULK AT MOST 1048576: true; the input reads as it did. -/
def fnExactSpacerForUptoRow : OpenClaim := { program := "ytkhiffenaiakhaa", sum := "88e8e4308f577b48603417c2db88f86e74496bafd06452049d7c69d87eeffb71", func := "loop.example/g03304/laws.FnExactSpacerFor", spec := "fnExactSpacerFor", apart := false, narrowed := true }
def FnExactSpacerForUptoSaid : Prop := fnExactSpacerForUptoRow.holds Try.pinned (OpenSpec.upto fnExactSpacerForSpec)

/-- 'laws.FnExactBestUnit', WHERE WHAT IT READS IS OF BULK AT MOST 1048576: true; the input reads as it did. -/
def fnExactBestUnitUptoRow : OpenClaim := { program := "ytkhiffenaiakhaa", sum := "88e8e4308f577b48603417c2db88f86e74496bafd06452049d7c69d87eeffb71", func := "loop.example/g03304/laws.FnExactBestUnit", spec := "fnExactBestUnit", apart := false, narrowed := true }
def FnExactBestUnitUptoSaid : Prop := fnExactBestUnitUptoRow.holds Try.pinned (OpenSpec.upto fnExactBestUnitSpec)

/-- 'laws.FnExactUnitsAround', WHERE WHAT IT READS IS OF BULK AT MOST 1048576: true; the input reads as it did. -/
def fnExactUnitsAroundUptoRow : OpenClaim := { program := "ytkhiffenaiakhaa", sum := "88e8e4308f577b48603417c2db88f86e74496bafd06452049d7c69d87eeffb71", func := "loop.example/g03304/laws.FnExactUnitsAround", spec := "fnExactUnitsAround", apart := false, narrowed := true }
def FnExactUnitsAroundUptoSaid : Prop := fnExactUnitsAroundUptoRow.holds Try.pinned (OpenSpec.upto fnExactUnitsAroundSpec)

end Rows
end Go.Proofs.Ytkhiffenaiakhaa
