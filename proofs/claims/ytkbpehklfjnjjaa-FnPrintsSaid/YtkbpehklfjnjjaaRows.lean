/-
  No cell of these rows narrows 'for every input' (looked for: loops, veiled, ifaces, maps, wideKeys, modest, calm, conditions, laid).
  DERIVED. THE GIVEN ROWS OF THIS SEAT. 6 by the template 'for every input the law returns true; each argument reads behind the call as it read before'; 0 by the template 'total and deterministic' (their statements: YtkbpehklfjnjjaaTotals.lean).
  GIVEN WITH THE SEED: the statements are not yours to turn. If you find one false, say at which input.
  Laid BY PROGRAM, IN A SANDBOX (cutbox-rows.mjs): the forced cells as the released guide's own fill.sh prints them over the translation 7a67ec08a9f5f923… (all of the seat's roots in one cut). By AI agents, Wed Nov 11 2026. No macro, syntax, notation, axiom, sorry.
-/
import Derived.Test.YtkbpehklfjnjjaaChecked
import GoSem.Claim
import GoSem.ClaimJoined
import GoSem.ClaimMapViews
import Derived.JoinedTies
import Derived.KernelRfl
namespace Go.Proofs.Ytkbpehklfjnjjaa
/- THE CELL 'sum', in the pinned program and in every row, IS THE sha256 OF THE DUMP (.gsa) THAT YtkbpehklfjnjjaaProg.lean LOADS. Nothing in Lean hashes anything: it is a label: what it is worth is what the hold of that sum in a sandbox is worth. -/
noncomputable def Try.pinned : Pinned := { name := "ytkbpehklfjnjjaa", sum := "7a67ec08a9f5f923bc0856c9360d7f2c934a5939989b14b63b8a0c5e43b9b835", checked := Try.checked }
namespace Rows
def none {H : Type} : Left H := { results := [], args := [] }

/-- 'laws.FnExactMaySee': WHATEVER THE INPUT: true; the input reads as it did. -/
def fnExactMaySeeSpec : ChangeSpec := { name := "fnExactMaySee", fn := fun _ => fun
  | [d1, d2, d3] => { results := [.lit (.bool true)], args := [d1, d2, d3] }
  | _ => none }
def fnExactMaySeeRow : OpenClaim := { program := "ytkbpehklfjnjjaa", sum := "7a67ec08a9f5f923bc0856c9360d7f2c934a5939989b14b63b8a0c5e43b9b835", func := "loop.example/g03304/laws.FnExactMaySee", spec := "fnExactMaySee", apart := false }
def FnExactMaySeeSaid : Prop := fnExactMaySeeRow.holds Try.pinned (OpenSpec.ofChange fnExactMaySeeSpec)

/-- ITS FALSE NEIGHBOUR: 'it returns false'. Refute it at one input. -/
def fnExactMaySeeWrong : ChangeSpec := { name := "fnExactMaySee", fn := fun _ => fun
  | [d1, d2, d3] => { results := [.lit (.bool false)], args := [d1, d2, d3] }
  | _ => none }
def FnExactMaySeeWrongFalsely : Prop := fnExactMaySeeRow.holds Try.pinned (OpenSpec.ofChange fnExactMaySeeWrong)

/-- 'laws.FnExactStiffColors': WHATEVER THE INPUT: true; the input reads as it did. -/
def fnExactStiffColorsSpec : ChangeSpec := { name := "fnExactStiffColors", fn := fun _ => fun
  | [d1, d2] => { results := [.lit (.bool true)], args := [d1, d2] }
  | _ => none }
def fnExactStiffColorsRow : OpenClaim := { program := "ytkbpehklfjnjjaa", sum := "7a67ec08a9f5f923bc0856c9360d7f2c934a5939989b14b63b8a0c5e43b9b835", func := "loop.example/g03304/laws.FnExactStiffColors", spec := "fnExactStiffColors", apart := false }
def FnExactStiffColorsSaid : Prop := fnExactStiffColorsRow.holds Try.pinned (OpenSpec.ofChange fnExactStiffColorsSpec)

/-- ITS FALSE NEIGHBOUR: 'it returns false'. Refute it at one input. -/
def fnExactStiffColorsWrong : ChangeSpec := { name := "fnExactStiffColors", fn := fun _ => fun
  | [d1, d2] => { results := [.lit (.bool false)], args := [d1, d2] }
  | _ => none }
def FnExactStiffColorsWrongFalsely : Prop := fnExactStiffColorsRow.holds Try.pinned (OpenSpec.ofChange fnExactStiffColorsWrong)

/-- 'laws.FnExactTurnsOf': WHATEVER THE INPUT: true; the input reads as it did. -/
def fnExactTurnsOfSpec : ChangeSpec := { name := "fnExactTurnsOf", fn := fun _ => fun
  | [d1, d2] => { results := [.lit (.bool true)], args := [d1, d2] }
  | _ => none }
def fnExactTurnsOfRow : OpenClaim := { program := "ytkbpehklfjnjjaa", sum := "7a67ec08a9f5f923bc0856c9360d7f2c934a5939989b14b63b8a0c5e43b9b835", func := "loop.example/g03304/laws.FnExactTurnsOf", spec := "fnExactTurnsOf", apart := false }
def FnExactTurnsOfSaid : Prop := fnExactTurnsOfRow.holds Try.pinned (OpenSpec.ofChange fnExactTurnsOfSpec)

/-- ITS FALSE NEIGHBOUR: 'it returns false'. Refute it at one input. -/
def fnExactTurnsOfWrong : ChangeSpec := { name := "fnExactTurnsOf", fn := fun _ => fun
  | [d1, d2] => { results := [.lit (.bool false)], args := [d1, d2] }
  | _ => none }
def FnExactTurnsOfWrongFalsely : Prop := fnExactTurnsOfRow.holds Try.pinned (OpenSpec.ofChange fnExactTurnsOfWrong)

/-- 'laws.FnPrints': WHATEVER THE INPUT: true; the input reads as it did. -/
def fnPrintsSpec : ChangeSpec := { name := "fnPrints", fn := fun _ => fun
  | [d] => { results := [.lit (.bool true)], args := [d] }
  | _ => none }
def fnPrintsRow : OpenClaim := { program := "ytkbpehklfjnjjaa", sum := "7a67ec08a9f5f923bc0856c9360d7f2c934a5939989b14b63b8a0c5e43b9b835", func := "loop.example/g03304/laws.FnPrints", spec := "fnPrints", apart := false }
def FnPrintsSaid : Prop := fnPrintsRow.holds Try.pinned (OpenSpec.ofChange fnPrintsSpec)

/-- ITS FALSE NEIGHBOUR: 'it returns false'. Refute it at one input. -/
def fnPrintsWrong : ChangeSpec := { name := "fnPrints", fn := fun _ => fun
  | [d] => { results := [.lit (.bool false)], args := [d] }
  | _ => none }
def FnPrintsWrongFalsely : Prop := fnPrintsRow.holds Try.pinned (OpenSpec.ofChange fnPrintsWrong)

/-- 'laws.FnExactQuiltOk': WHATEVER THE INPUT: true; the input reads as it did. -/
def fnExactQuiltOkSpec : ChangeSpec := { name := "fnExactQuiltOk", fn := fun _ => fun
  | [d1, d2] => { results := [.lit (.bool true)], args := [d1, d2] }
  | _ => none }
def fnExactQuiltOkRow : OpenClaim := { program := "ytkbpehklfjnjjaa", sum := "7a67ec08a9f5f923bc0856c9360d7f2c934a5939989b14b63b8a0c5e43b9b835", func := "loop.example/g03304/laws.FnExactQuiltOk", spec := "fnExactQuiltOk", apart := false }
def FnExactQuiltOkSaid : Prop := fnExactQuiltOkRow.holds Try.pinned (OpenSpec.ofChange fnExactQuiltOkSpec)

/-- ITS FALSE NEIGHBOUR: 'it returns false'. Refute it at one input. -/
def fnExactQuiltOkWrong : ChangeSpec := { name := "fnExactQuiltOk", fn := fun _ => fun
  | [d1, d2] => { results := [.lit (.bool false)], args := [d1, d2] }
  | _ => none }
def FnExactQuiltOkWrongFalsely : Prop := fnExactQuiltOkRow.holds Try.pinned (OpenSpec.ofChange fnExactQuiltOkWrong)

/-- 'laws.FnExactUseOf': WHATEVER THE INPUT: true; the input reads as it did. -/
def fnExactUseOfSpec : ChangeSpec := { name := "fnExactUseOf", fn := fun _ => fun
  | [d1, d2] => { results := [.lit (.bool true)], args := [d1, d2] }
  | _ => none }
def fnExactUseOfRow : OpenClaim := { program := "ytkbpehklfjnjjaa", sum := "7a67ec08a9f5f923bc0856c9360d7f2c934a5939989b14b63b8a0c5e43b9b835", func := "loop.example/g03304/laws.FnExactUseOf", spec := "fnExactUseOf", apart := false }
def FnExactUseOfSaid : Prop := fnExactUseOfRow.holds Try.pinned (OpenSpec.ofChange fnExactUseOfSpec)

/-- ITS FALSE NEIGHBOUR: 'it returns false'. Refute it at one input. -/
def fnExactUseOfWrong : ChangeSpec := { name := "fnExactUseOf", fn := fun _ => fun
  | [d1, d2] => { results := [.lit (.bool false)], args := [d1, d2] }
  | _ => none }
def FnExactUseOfWrongFalsely : Prop := fnExactUseOfRow.holds Try.pinned (OpenSpec.ofChange fnExactUseOfWrong)

/- THE SECOND FORM. 'bulk': how many values and letters a reading holds, each counted each time it is reached (what is shared counts as often as it is met; a slice's spare places count too). A statement '..UptoSaid' is the law's where the arguments, and the package variables that the reading takes, are together of bulk at most 1048576: NARROWER than '..Said'. Prove '..Said' where nothing that the law and all that it calls make is longer than what came in: it says more and counts as full. Else prove '..UptoSaid'. A law counts once. -/
mutual
def uptoBulk {H : Type} : DataW H → Nat
  | .lit (.string bytes) => bytes.length + 1
  | .lit _ => 1
  | .nil => 1
  | .ptr d => uptoBulk d + 1
  | .slice elems spare => uptoBulkAll elems + uptoBulkAll spare + 1
  | .agg parts => uptoBulkAll parts + 1
  | .iface _ d => uptoBulk d + 1
  | .map entries => uptoBulkEntries entries + 1
  | .held _ => 1
def uptoBulkAll {H : Type} : List (DataW H) → Nat
  | [] => 0
  | d :: r => uptoBulk d + uptoBulkAll r
def uptoBulkEntries {H : Type} : List (Lit × DataW H) → Nat
  | [] => 0
  | x :: r => uptoBulkEntry x + uptoBulkEntries r
def uptoBulkEntry {H : Type} : Lit × DataW H → Nat
  | (.string bytes, d) => bytes.length + uptoBulk d + 1
  | (_, d) => uptoBulk d + 1
 end
def uptoSmall : (H : Type) → List (DataW H) → Bool := fun _ ds => decide (uptoBulkAll ds ≤ 1048576)
def OpenSpec.upto (s : _root_.Go.ChangeSpec) : _root_.Go.OpenSpec := { _root_.Go.OpenSpec.ofChange s with cond := some uptoSmall }

/-- 'laws.FnExactMaySee', WHERE WHAT IT READS IS OF BULK AT MOST 1048576: true; the input reads as it did. -/
def fnExactMaySeeUptoRow : OpenClaim := { program := "ytkbpehklfjnjjaa", sum := "7a67ec08a9f5f923bc0856c9360d7f2c934a5939989b14b63b8a0c5e43b9b835", func := "loop.example/g03304/laws.FnExactMaySee", spec := "fnExactMaySee", apart := false, narrowed := true }
def FnExactMaySeeUptoSaid : Prop := fnExactMaySeeUptoRow.holds Try.pinned (OpenSpec.upto fnExactMaySeeSpec)

/-- 'laws.FnExactStiffColors', WHERE WHAT IT READS IS OF BULK AT MOST 1048576: true; the input reads as it did. -/
def fnExactStiffColorsUptoRow : OpenClaim := { program := "ytkbpehklfjnjjaa", sum := "7a67ec08a9f5f923bc0856c9360d7f2c934a5939989b14b63b8a0c5e43b9b835", func := "loop.example/g03304/laws.FnExactStiffColors", spec := "fnExactStiffColors", apart := false, narrowed := true }
def FnExactStiffColorsUptoSaid : Prop := fnExactStiffColorsUptoRow.holds Try.pinned (OpenSpec.upto fnExactStiffColorsSpec)

/-- 'laws.FnExactTurnsOf', WHERE WHAT IT READS IS OF BULK AT MOST 1048576: true; the input reads as it did. -/
def fnExactTurnsOfUptoRow : OpenClaim := { program := "ytkbpehklfjnjjaa", sum := "7a67ec08a9f5f923bc0856c9360d7f2c934a5939989b14b63b8a0c5e43b9b835", func := "loop.example/g03304/laws.FnExactTurnsOf", spec := "fnExactTurnsOf", apart := false, narrowed := true }
def FnExactTurnsOfUptoSaid : Prop := fnExactTurnsOfUptoRow.holds Try.pinned (OpenSpec.upto fnExactTurnsOfSpec)

/-- 'laws.FnPrints', WHERE WHAT IT READS IS OF BULK AT MOST 1048576: true; the input reads as it did. -/
def fnPrintsUptoRow : OpenClaim := { program := "ytkbpehklfjnjjaa", sum := "7a67ec08a9f5f923bc0856c9360d7f2c934a5939989b14b63b8a0c5e43b9b835", func := "loop.example/g03304/laws.FnPrints", spec := "fnPrints", apart := false, narrowed := true }
def FnPrintsUptoSaid : Prop := fnPrintsUptoRow.holds Try.pinned (OpenSpec.upto fnPrintsSpec)

/-- 'laws.FnExactQuiltOk', WHERE WHAT IT READS IS OF BULK AT MOST 1048576: true; the input reads as it did. -/
def fnExactQuiltOkUptoRow : OpenClaim := { program := "ytkbpehklfjnjjaa", sum := "7a67ec08a9f5f923bc0856c9360d7f2c934a5939989b14b63b8a0c5e43b9b835", func := "loop.example/g03304/laws.FnExactQuiltOk", spec := "fnExactQuiltOk", apart := false, narrowed := true }
def FnExactQuiltOkUptoSaid : Prop := fnExactQuiltOkUptoRow.holds Try.pinned (OpenSpec.upto fnExactQuiltOkSpec)

/-- 'laws.FnExactUseOf', WHERE WHAT IT READS IS OF BULK AT MOST 1048576: true; the input reads as it did. -/
def fnExactUseOfUptoRow : OpenClaim := { program := "ytkbpehklfjnjjaa", sum := "7a67ec08a9f5f923bc0856c9360d7f2c934a5939989b14b63b8a0c5e43b9b835", func := "loop.example/g03304/laws.FnExactUseOf", spec := "fnExactUseOf", apart := false, narrowed := true }
def FnExactUseOfUptoSaid : Prop := fnExactUseOfUptoRow.holds Try.pinned (OpenSpec.upto fnExactUseOfSpec)

end Rows
end Go.Proofs.Ytkbpehklfjnjjaa
