/-
  No cell of these rows narrows 'for every input' (looked for: loops, veiled, ifaces, maps, wideKeys, modest, calm, conditions, laid).
  DERIVED. THE GIVEN ROWS OF THIS SEAT. 12 by the template 'for every input the law returns true; each argument reads behind the call as it read before'; 0 by the template 'total and deterministic' (their statements: YtmjdgplkcocgmaaTotals.lean).
  GIVEN WITH THE SEED: the statements are not yours to turn. If you find one false, say at which input.
  Laid BY PROGRAM, IN A SANDBOX (cutbox-rows.mjs): the forced cells as the released guide's own fill.sh prints them over the translation e8fcc280d727c472… (all of the seat's roots in one cut). By AI agents, Wed Nov 11 2026. No macro, syntax, notation, axiom, sorry.
-/
import Derived.Test.YtmjdgplkcocgmaaChecked
import GoSem.Claim
import GoSem.ClaimJoined
import GoSem.ClaimMapViews
import Derived.JoinedTies
import Derived.KernelRfl
namespace Go.Proofs.Ytmjdgplkcocgmaa
/- THE CELL 'sum', in the pinned program and in every row, IS THE sha256 OF THE DUMP (.gsa) THAT YtmjdgplkcocgmaaProg.lean LOADS. Nothing in Lean hashes anything: it is a label: what it is worth is what the hold of that sum in a sandbox is worth. -/
noncomputable def Try.pinned : Pinned := { name := "ytmjdgplkcocgmaa", sum := "e8fcc280d727c472a801df0f2daef0fc7aa3216f8205230f9ad13a0c708907c9", checked := Try.checked }
namespace Rows
def none {H : Type} : Left H := { results := [], args := [] }

/-- 'laws.FnExactPatchCuts': WHATEVER THE INPUT: true; the input reads as it did. -/
def fnExactPatchCutsSpec : ChangeSpec := { name := "fnExactPatchCuts", fn := fun _ => fun
  | [d1, d2] => { results := [.lit (.bool true)], args := [d1, d2] }
  | _ => none }
def fnExactPatchCutsRow : OpenClaim := { program := "ytmjdgplkcocgmaa", sum := "e8fcc280d727c472a801df0f2daef0fc7aa3216f8205230f9ad13a0c708907c9", func := "loop.example/g03304/laws.FnExactPatchCuts", spec := "fnExactPatchCuts", apart := false }
def FnExactPatchCutsSaid : Prop := fnExactPatchCutsRow.holds Try.pinned (OpenSpec.ofChange fnExactPatchCutsSpec)

/-- ITS FALSE NEIGHBOUR: 'it returns false'. Refute it at one input. -/
def fnExactPatchCutsWrong : ChangeSpec := { name := "fnExactPatchCuts", fn := fun _ => fun
  | [d1, d2] => { results := [.lit (.bool false)], args := [d1, d2] }
  | _ => none }
def FnExactPatchCutsWrongFalsely : Prop := fnExactPatchCutsRow.holds Try.pinned (OpenSpec.ofChange fnExactPatchCutsWrong)

/-- 'laws.FnExactClothNeeded': WHATEVER THE INPUT: true; the input reads as it did. -/
def fnExactClothNeededSpec : ChangeSpec := { name := "fnExactClothNeeded", fn := fun _ => fun
  | [d1, d2] => { results := [.lit (.bool true)], args := [d1, d2] }
  | _ => none }
def fnExactClothNeededRow : OpenClaim := { program := "ytmjdgplkcocgmaa", sum := "e8fcc280d727c472a801df0f2daef0fc7aa3216f8205230f9ad13a0c708907c9", func := "loop.example/g03304/laws.FnExactClothNeeded", spec := "fnExactClothNeeded", apart := false }
def FnExactClothNeededSaid : Prop := fnExactClothNeededRow.holds Try.pinned (OpenSpec.ofChange fnExactClothNeededSpec)

/-- ITS FALSE NEIGHBOUR: 'it returns false'. Refute it at one input. -/
def fnExactClothNeededWrong : ChangeSpec := { name := "fnExactClothNeeded", fn := fun _ => fun
  | [d1, d2] => { results := [.lit (.bool false)], args := [d1, d2] }
  | _ => none }
def FnExactClothNeededWrongFalsely : Prop := fnExactClothNeededRow.holds Try.pinned (OpenSpec.ofChange fnExactClothNeededWrong)

/-- 'laws.FnAllowances': WHATEVER THE INPUT: true; the input reads as it did. -/
def fnAllowancesSpec : ChangeSpec := { name := "fnAllowances", fn := fun _ => fun
  | [d] => { results := [.lit (.bool true)], args := [d] }
  | _ => none }
def fnAllowancesRow : OpenClaim := { program := "ytmjdgplkcocgmaa", sum := "e8fcc280d727c472a801df0f2daef0fc7aa3216f8205230f9ad13a0c708907c9", func := "loop.example/g03304/laws.FnAllowances", spec := "fnAllowances", apart := false }
def FnAllowancesSaid : Prop := fnAllowancesRow.holds Try.pinned (OpenSpec.ofChange fnAllowancesSpec)

/-- ITS FALSE NEIGHBOUR: 'it returns false'. Refute it at one input. -/
def fnAllowancesWrong : ChangeSpec := { name := "fnAllowances", fn := fun _ => fun
  | [d] => { results := [.lit (.bool false)], args := [d] }
  | _ => none }
def FnAllowancesWrongFalsely : Prop := fnAllowancesRow.holds Try.pinned (OpenSpec.ofChange fnAllowancesWrong)

/-- 'laws.FnExactAreJoins': WHATEVER THE INPUT: true; the input reads as it did. -/
def fnExactAreJoinsSpec : ChangeSpec := { name := "fnExactAreJoins", fn := fun _ => fun
  | [d1, d2] => { results := [.lit (.bool true)], args := [d1, d2] }
  | _ => none }
def fnExactAreJoinsRow : OpenClaim := { program := "ytmjdgplkcocgmaa", sum := "e8fcc280d727c472a801df0f2daef0fc7aa3216f8205230f9ad13a0c708907c9", func := "loop.example/g03304/laws.FnExactAreJoins", spec := "fnExactAreJoins", apart := false }
def FnExactAreJoinsSaid : Prop := fnExactAreJoinsRow.holds Try.pinned (OpenSpec.ofChange fnExactAreJoinsSpec)

/-- ITS FALSE NEIGHBOUR: 'it returns false'. Refute it at one input. -/
def fnExactAreJoinsWrong : ChangeSpec := { name := "fnExactAreJoins", fn := fun _ => fun
  | [d1, d2] => { results := [.lit (.bool false)], args := [d1, d2] }
  | _ => none }
def FnExactAreJoinsWrongFalsely : Prop := fnExactAreJoinsRow.holds Try.pinned (OpenSpec.ofChange fnExactAreJoinsWrong)

/-- 'laws.FnExactUnitBox': WHATEVER THE INPUT: true; the input reads as it did. -/
def fnExactUnitBoxSpec : ChangeSpec := { name := "fnExactUnitBox", fn := fun _ => fun
  | [d1, d2, d3] => { results := [.lit (.bool true)], args := [d1, d2, d3] }
  | _ => none }
def fnExactUnitBoxRow : OpenClaim := { program := "ytmjdgplkcocgmaa", sum := "e8fcc280d727c472a801df0f2daef0fc7aa3216f8205230f9ad13a0c708907c9", func := "loop.example/g03304/laws.FnExactUnitBox", spec := "fnExactUnitBox", apart := false }
def FnExactUnitBoxSaid : Prop := fnExactUnitBoxRow.holds Try.pinned (OpenSpec.ofChange fnExactUnitBoxSpec)

/-- ITS FALSE NEIGHBOUR: 'it returns false'. Refute it at one input. -/
def fnExactUnitBoxWrong : ChangeSpec := { name := "fnExactUnitBox", fn := fun _ => fun
  | [d1, d2, d3] => { results := [.lit (.bool false)], args := [d1, d2, d3] }
  | _ => none }
def FnExactUnitBoxWrongFalsely : Prop := fnExactUnitBoxRow.holds Try.pinned (OpenSpec.ofChange fnExactUnitBoxWrong)

/-- 'laws.FnExactLongestSeam': WHATEVER THE INPUT: true; the input reads as it did. -/
def fnExactLongestSeamSpec : ChangeSpec := { name := "fnExactLongestSeam", fn := fun _ => fun
  | [d1, d2] => { results := [.lit (.bool true)], args := [d1, d2] }
  | _ => none }
def fnExactLongestSeamRow : OpenClaim := { program := "ytmjdgplkcocgmaa", sum := "e8fcc280d727c472a801df0f2daef0fc7aa3216f8205230f9ad13a0c708907c9", func := "loop.example/g03304/laws.FnExactLongestSeam", spec := "fnExactLongestSeam", apart := false }
def FnExactLongestSeamSaid : Prop := fnExactLongestSeamRow.holds Try.pinned (OpenSpec.ofChange fnExactLongestSeamSpec)

/-- ITS FALSE NEIGHBOUR: 'it returns false'. Refute it at one input. -/
def fnExactLongestSeamWrong : ChangeSpec := { name := "fnExactLongestSeam", fn := fun _ => fun
  | [d1, d2] => { results := [.lit (.bool false)], args := [d1, d2] }
  | _ => none }
def FnExactLongestSeamWrongFalsely : Prop := fnExactLongestSeamRow.holds Try.pinned (OpenSpec.ofChange fnExactLongestSeamWrong)

/-- 'laws.FnExactCountSeams': WHATEVER THE INPUT: true; the input reads as it did. -/
def fnExactCountSeamsSpec : ChangeSpec := { name := "fnExactCountSeams", fn := fun _ => fun
  | [d] => { results := [.lit (.bool true)], args := [d] }
  | _ => none }
def fnExactCountSeamsRow : OpenClaim := { program := "ytmjdgplkcocgmaa", sum := "e8fcc280d727c472a801df0f2daef0fc7aa3216f8205230f9ad13a0c708907c9", func := "loop.example/g03304/laws.FnExactCountSeams", spec := "fnExactCountSeams", recurses := true, apart := false }
def FnExactCountSeamsSaid : Prop := fnExactCountSeamsRow.holds Try.pinned (OpenSpec.ofChange fnExactCountSeamsSpec)

/-- ITS FALSE NEIGHBOUR: 'it returns false'. Refute it at one input. -/
def fnExactCountSeamsWrong : ChangeSpec := { name := "fnExactCountSeams", fn := fun _ => fun
  | [d] => { results := [.lit (.bool false)], args := [d] }
  | _ => none }
def FnExactCountSeamsWrongFalsely : Prop := fnExactCountSeamsRow.holds Try.pinned (OpenSpec.ofChange fnExactCountSeamsWrong)

/-- 'laws.FnExactFirstKnot': WHATEVER THE INPUT: true; the input reads as it did. -/
def fnExactFirstKnotSpec : ChangeSpec := { name := "fnExactFirstKnot", fn := fun _ => fun
  | [d] => { results := [.lit (.bool true)], args := [d] }
  | _ => none }
def fnExactFirstKnotRow : OpenClaim := { program := "ytmjdgplkcocgmaa", sum := "e8fcc280d727c472a801df0f2daef0fc7aa3216f8205230f9ad13a0c708907c9", func := "loop.example/g03304/laws.FnExactFirstKnot", spec := "fnExactFirstKnot", recurses := true, apart := false }
def FnExactFirstKnotSaid : Prop := fnExactFirstKnotRow.holds Try.pinned (OpenSpec.ofChange fnExactFirstKnotSpec)

/-- ITS FALSE NEIGHBOUR: 'it returns false'. Refute it at one input. -/
def fnExactFirstKnotWrong : ChangeSpec := { name := "fnExactFirstKnot", fn := fun _ => fun
  | [d] => { results := [.lit (.bool false)], args := [d] }
  | _ => none }
def FnExactFirstKnotWrongFalsely : Prop := fnExactFirstKnotRow.holds Try.pinned (OpenSpec.ofChange fnExactFirstKnotWrong)

/-- 'laws.FnExactJoinsOf': WHATEVER THE INPUT: true; the input reads as it did. -/
def fnExactJoinsOfSpec : ChangeSpec := { name := "fnExactJoinsOf", fn := fun _ => fun
  | [d] => { results := [.lit (.bool true)], args := [d] }
  | _ => none }
def fnExactJoinsOfRow : OpenClaim := { program := "ytmjdgplkcocgmaa", sum := "e8fcc280d727c472a801df0f2daef0fc7aa3216f8205230f9ad13a0c708907c9", func := "loop.example/g03304/laws.FnExactJoinsOf", spec := "fnExactJoinsOf", unfollowed := true, recurses := true, apart := false }
def FnExactJoinsOfSaid : Prop := fnExactJoinsOfRow.holds Try.pinned (OpenSpec.ofChange fnExactJoinsOfSpec)

/-- ITS FALSE NEIGHBOUR: 'it returns false'. Refute it at one input. -/
def fnExactJoinsOfWrong : ChangeSpec := { name := "fnExactJoinsOf", fn := fun _ => fun
  | [d] => { results := [.lit (.bool false)], args := [d] }
  | _ => none }
def FnExactJoinsOfWrongFalsely : Prop := fnExactJoinsOfRow.holds Try.pinned (OpenSpec.ofChange fnExactJoinsOfWrong)

/-- 'laws.FnCuts': WHATEVER THE INPUT: true; the input reads as it did. -/
def fnCutsSpec : ChangeSpec := { name := "fnCuts", fn := fun _ => fun
  | [d] => { results := [.lit (.bool true)], args := [d] }
  | _ => none }
def fnCutsRow : OpenClaim := { program := "ytmjdgplkcocgmaa", sum := "e8fcc280d727c472a801df0f2daef0fc7aa3216f8205230f9ad13a0c708907c9", func := "loop.example/g03304/laws.FnCuts", spec := "fnCuts", recurses := true, apart := false }
def FnCutsSaid : Prop := fnCutsRow.holds Try.pinned (OpenSpec.ofChange fnCutsSpec)

/-- ITS FALSE NEIGHBOUR: 'it returns false'. Refute it at one input. -/
def fnCutsWrong : ChangeSpec := { name := "fnCuts", fn := fun _ => fun
  | [d] => { results := [.lit (.bool false)], args := [d] }
  | _ => none }
def FnCutsWrongFalsely : Prop := fnCutsRow.holds Try.pinned (OpenSpec.ofChange fnCutsWrong)

/-- 'laws.FnJoins': WHATEVER THE INPUT: true; the input reads as it did. -/
def fnJoinsSpec : ChangeSpec := { name := "fnJoins", fn := fun _ => fun
  | [d] => { results := [.lit (.bool true)], args := [d] }
  | _ => none }
def fnJoinsRow : OpenClaim := { program := "ytmjdgplkcocgmaa", sum := "e8fcc280d727c472a801df0f2daef0fc7aa3216f8205230f9ad13a0c708907c9", func := "loop.example/g03304/laws.FnJoins", spec := "fnJoins", unfollowed := true, recurses := true, apart := false }
def FnJoinsSaid : Prop := fnJoinsRow.holds Try.pinned (OpenSpec.ofChange fnJoinsSpec)

/-- ITS FALSE NEIGHBOUR: 'it returns false'. Refute it at one input. -/
def fnJoinsWrong : ChangeSpec := { name := "fnJoins", fn := fun _ => fun
  | [d] => { results := [.lit (.bool false)], args := [d] }
  | _ => none }
def FnJoinsWrongFalsely : Prop := fnJoinsRow.holds Try.pinned (OpenSpec.ofChange fnJoinsWrong)

/-- 'laws.FnSewing': WHATEVER THE INPUT: true; the input reads as it did. -/
def fnSewingSpec : ChangeSpec := { name := "fnSewing", fn := fun _ => fun
  | [d] => { results := [.lit (.bool true)], args := [d] }
  | _ => none }
def fnSewingRow : OpenClaim := { program := "ytmjdgplkcocgmaa", sum := "e8fcc280d727c472a801df0f2daef0fc7aa3216f8205230f9ad13a0c708907c9", func := "loop.example/g03304/laws.FnSewing", spec := "fnSewing", recurses := true, apart := false }
def FnSewingSaid : Prop := fnSewingRow.holds Try.pinned (OpenSpec.ofChange fnSewingSpec)

/-- ITS FALSE NEIGHBOUR: 'it returns false'. Refute it at one input. -/
def fnSewingWrong : ChangeSpec := { name := "fnSewing", fn := fun _ => fun
  | [d] => { results := [.lit (.bool false)], args := [d] }
  | _ => none }
def FnSewingWrongFalsely : Prop := fnSewingRow.holds Try.pinned (OpenSpec.ofChange fnSewingWrong)

/- THE SECOND FORM. 'bulk': how many values and letters a reading holds, each counted each time it is reached (what is shared counts as often as it is met; a slice's spare places count too). A statement '..UptoSaid' is the law's where the arguments, and the package variables that the reading takes, are together of bulk at most 1048576: NARROWER than '..Said'. Prove '..Said' where nothing that the law and all that it calls make is longer than what came in: it says more and counts as full. Else prove '..UptoSaid'. A law counts once. -/
mutual
def uptoBulk {H : Type} : DataW H → Nat
  | .lit (.string bytes) => bytes.length + 1
  | .lit _ => 1
  | .nil => 1
  | .ptr d => uptoBulk d + 1
  | .slice elems spare => uptoBulkAll elems + uptoBulkAll spare + 1
  | .agg parts => uptoBulkAll parts + 1
  | .iface _ d => uptoBulk d + 1
  | .map entries => uptoBulkEntries entries + 1
  | .held _ => 1
def uptoBulkAll {H : Type} : List (DataW H) → Nat
  | [] => 0
  | d :: r => uptoBulk d + uptoBulkAll r
def uptoBulkEntries {H : Type} : List (Lit × DataW H) → Nat
  | [] => 0
  | x :: r => uptoBulkEntry x + uptoBulkEntries r
def uptoBulkEntry {H : Type} : Lit × DataW H → Nat
  | (.string bytes, d) => bytes.length + uptoBulk d + 1
  | (_, d) => uptoBulk d + 1
 end
def uptoSmall : (H : Type) → List (DataW H) → Bool := fun _ ds => decide (uptoBulkAll ds ≤ 1048576)
def OpenSpec.upto (s : _root_.Go.ChangeSpec) : _root_.Go.OpenSpec := { _root_.Go.OpenSpec.ofChange s with cond := some uptoSmall }

/-- 'laws.FnExactPatchCuts', WHERE WHAT IT READS IS OF BULK AT MOST 1048576: true; the input reads as it did. -/
def fnExactPatchCutsUptoRow : OpenClaim := { program := "ytmjdgplkcocgmaa", sum := "e8fcc280d727c472a801df0f2daef0fc7aa3216f8205230f9ad13a0c708907c9", func := "loop.example/g03304/laws.FnExactPatchCuts", spec := "fnExactPatchCuts", apart := false, narrowed := true }
def FnExactPatchCutsUptoSaid : Prop := fnExactPatchCutsUptoRow.holds Try.pinned (OpenSpec.upto fnExactPatchCutsSpec)

/-- 'laws.FnExactClothNeeded', WHERE WHAT IT READS IS OF BULK AT MOST 1048576: true; the input reads as it did. -/
def fnExactClothNeededUptoRow : OpenClaim := { program := "ytmjdgplkcocgmaa", sum := "e8fcc280d727c472a801df0f2daef0fc7aa3216f8205230f9ad13a0c708907c9", func := "loop.example/g03304/laws.FnExactClothNeeded", spec := "fnExactClothNeeded", apart := false, narrowed := true }
def FnExactClothNeededUptoSaid : Prop := fnExactClothNeededUptoRow.holds Try.pinned (OpenSpec.upto fnExactClothNeededSpec)

/-- 'laws.FnAllowances', WHERE WHAT IT READS IS OF BULK AT MOST 1048576: true; the input reads as it did. -/
def fnAllowancesUptoRow : OpenClaim := { program := "ytmjdgplkcocgmaa", sum := "e8fcc280d727c472a801df0f2daef0fc7aa3216f8205230f9ad13a0c708907c9", func := "loop.example/g03304/laws.FnAllowances", spec := "fnAllowances", apart := false, narrowed := true }
def FnAllowancesUptoSaid : Prop := fnAllowancesUptoRow.holds Try.pinned (OpenSpec.upto fnAllowancesSpec)

/-- 'laws.FnExactAreJoins', WHERE WHAT IT READS IS OF BULK AT MOST 1048576: true; the input reads as it did. -/
def fnExactAreJoinsUptoRow : OpenClaim := { program := "ytmjdgplkcocgmaa", sum := "e8fcc280d727c472a801df0f2daef0fc7aa3216f8205230f9ad13a0c708907c9", func := "loop.example/g03304/laws.FnExactAreJoins", spec := "fnExactAreJoins", apart := false, narrowed := true }
def FnExactAreJoinsUptoSaid : Prop := fnExactAreJoinsUptoRow.holds Try.pinned (OpenSpec.upto fnExactAreJoinsSpec)

/-- 'laws.FnExactUnitBox', WHERE WHAT IT READS IS OF BULK AT MOST 1048576: true; the input reads as it did. -/
def fnExactUnitBoxUptoRow : OpenClaim := { program := "ytmjdgplkcocgmaa", sum := "e8fcc280d727c472a801df0f2daef0fc7aa3216f8205230f9ad13a0c708907c9", func := "loop.example/g03304/laws.FnExactUnitBox", spec := "fnExactUnitBox", apart := false, narrowed := true }
def FnExactUnitBoxUptoSaid : Prop := fnExactUnitBoxUptoRow.holds Try.pinned (OpenSpec.upto fnExactUnitBoxSpec)

/-- 'laws.FnExactLongestSeam', WHERE WHAT IT READS IS OF BULK AT MOST 1048576: true; the input reads as it did. -/
def fnExactLongestSeamUptoRow : OpenClaim := { program := "ytmjdgplkcocgmaa", sum := "e8fcc280d727c472a801df0f2daef0fc7aa3216f8205230f9ad13a0c708907c9", func := "loop.example/g03304/laws.FnExactLongestSeam", spec := "fnExactLongestSeam", apart := false, narrowed := true }
def FnExactLongestSeamUptoSaid : Prop := fnExactLongestSeamUptoRow.holds Try.pinned (OpenSpec.upto fnExactLongestSeamSpec)

/-- 'laws.FnExactCountSeams', WHERE WHAT IT READS IS OF BULK AT MOST 1048576: true; the input reads as it did. -/
def fnExactCountSeamsUptoRow : OpenClaim := { program := "ytmjdgplkcocgmaa", sum := "e8fcc280d727c472a801df0f2daef0fc7aa3216f8205230f9ad13a0c708907c9", func := "loop.example/g03304/laws.FnExactCountSeams", spec := "fnExactCountSeams", recurses := true, apart := false, narrowed := true }
def FnExactCountSeamsUptoSaid : Prop := fnExactCountSeamsUptoRow.holds Try.pinned (OpenSpec.upto fnExactCountSeamsSpec)

/-- 'laws.FnExactFirstKnot', WHERE WHAT IT READS IS OF BULK AT MOST 1048576: true; the input reads as it did. -/
def fnExactFirstKnotUptoRow : OpenClaim := { program := "ytmjdgplkcocgmaa", sum := "e8fcc280d727c472a801df0f2daef0fc7aa3216f8205230f9ad13a0c708907c9", func := "loop.example/g03304/laws.FnExactFirstKnot", spec := "fnExactFirstKnot", recurses := true, apart := false, narrowed := true }
def FnExactFirstKnotUptoSaid : Prop := fnExactFirstKnotUptoRow.holds Try.pinned (OpenSpec.upto fnExactFirstKnotSpec)

/-- 'laws.FnExactJoinsOf', WHERE WHAT IT READS IS OF BULK AT MOST 1048576: true; the input reads as it did. -/
def fnExactJoinsOfUptoRow : OpenClaim := { program := "ytmjdgplkcocgmaa", sum := "e8fcc280d727c472a801df0f2daef0fc7aa3216f8205230f9ad13a0c708907c9", func := "loop.example/g03304/laws.FnExactJoinsOf", spec := "fnExactJoinsOf", unfollowed := true, recurses := true, apart := false, narrowed := true }
def FnExactJoinsOfUptoSaid : Prop := fnExactJoinsOfUptoRow.holds Try.pinned (OpenSpec.upto fnExactJoinsOfSpec)

/-- 'laws.FnCuts', WHERE WHAT IT READS IS OF BULK AT MOST 1048576: true; the input reads as it did. -/
def fnCutsUptoRow : OpenClaim := { program := "ytmjdgplkcocgmaa", sum := "e8fcc280d727c472a801df0f2daef0fc7aa3216f8205230f9ad13a0c708907c9", func := "loop.example/g03304/laws.FnCuts", spec := "fnCuts", recurses := true, apart := false, narrowed := true }
def FnCutsUptoSaid : Prop := fnCutsUptoRow.holds Try.pinned (OpenSpec.upto fnCutsSpec)

/-- 'laws.FnJoins', WHERE WHAT IT READS IS OF BULK AT MOST 1048576: true; the input reads as it did. -/
def fnJoinsUptoRow : OpenClaim := { program := "ytmjdgplkcocgmaa", sum := "e8fcc280d727c472a801df0f2daef0fc7aa3216f8205230f9ad13a0c708907c9", func := "loop.example/g03304/laws.FnJoins", spec := "fnJoins", unfollowed := true, recurses := true, apart := false, narrowed := true }
def FnJoinsUptoSaid : Prop := fnJoinsUptoRow.holds Try.pinned (OpenSpec.upto fnJoinsSpec)

/-- 'laws.FnSewing', WHERE WHAT IT READS IS OF BULK AT MOST 1048576: true; the input reads as it did. -/
def fnSewingUptoRow : OpenClaim := { program := "ytmjdgplkcocgmaa", sum := "e8fcc280d727c472a801df0f2daef0fc7aa3216f8205230f9ad13a0c708907c9", func := "loop.example/g03304/laws.FnSewing", spec := "fnSewing", recurses := true, apart := false, narrowed := true }
def FnSewingUptoSaid : Prop := fnSewingUptoRow.holds Try.pinned (OpenSpec.upto fnSewingSpec)

end Rows
end Go.Proofs.Ytmjdgplkcocgmaa
