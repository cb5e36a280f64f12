/-
  No cell of these rows narrows 'for every input' (looked for: loops, veiled, ifaces, maps, wideKeys, modest, calm, conditions, laid).
  DERIVED. THE GIVEN ROWS OF THIS SEAT. 10 by the template 'for every input the law returns true; each argument reads behind the call as it read before'; 0 by the template 'total and deterministic' (their statements: YtgobjhaodlmoaaaTotals.lean).
  GIVEN WITH THE SEED: the statements are not yours to turn. If you find one false, say at which input.
  Laid BY PROGRAM, IN A SANDBOX (cutbox-rows.mjs): the forced cells as the released guide's own fill.sh prints them over the translation a2ce011462fb0729… (all of the seat's roots in one cut). By AI agents, Wed Nov 11 2026. No macro, syntax, notation, axiom, sorry.
-/
import Derived.Test.YtgobjhaodlmoaaaChecked
import GoSem.Claim
import GoSem.ClaimJoined
import GoSem.ClaimMapViews
import Derived.JoinedTies
import Derived.KernelRfl
namespace Go.Proofs.Ytgobjhaodlmoaaa
/- THE CELL 'sum', in the pinned program and in every row, IS THE sha256 OF THE DUMP (.gsa) THAT YtgobjhaodlmoaaaProg.lean LOADS. Nothing in Lean hashes anything: it is a label: what it is worth is what the hold of that sum in a sandbox is worth. -/
noncomputable def Try.pinned : Pinned := { name := "ytgobjhaodlmoaaa", sum := "a2ce011462fb07294a256283a0a978a1841b275e36685b8698e7c87f3b5f02a9", checked := Try.checked }
namespace Rows
def none {H : Type} : Left H := { results := [], args := [] }

/-- 'laws.FnExactStripCount': WHATEVER THE INPUT: true; the input reads as it did. -/
def fnExactStripCountSpec : ChangeSpec := { name := "fnExactStripCount", fn := fun _ => fun
  | [d1, d2] => { results := [.lit (.bool true)], args := [d1, d2] }
  | _ => none }
def fnExactStripCountRow : OpenClaim := { program := "ytgobjhaodlmoaaa", sum := "a2ce011462fb07294a256283a0a978a1841b275e36685b8698e7c87f3b5f02a9", func := "loop.example/g03304/laws.FnExactStripCount", spec := "fnExactStripCount", apart := false }
def FnExactStripCountSaid : Prop := fnExactStripCountRow.holds Try.pinned (OpenSpec.ofChange fnExactStripCountSpec)

/-- ITS FALSE NEIGHBOUR: 'it returns false'. Refute it at one input. -/
def fnExactStripCountWrong : ChangeSpec := { name := "fnExactStripCount", fn := fun _ => fun
  | [d1, d2] => { results := [.lit (.bool false)], args := [d1, d2] }
  | _ => none }
def FnExactStripCountWrongFalsely : Prop := fnExactStripCountRow.holds Try.pinned (OpenSpec.ofChange fnExactStripCountWrong)

/-- 'laws.FnExactBetterWay': WHATEVER THE INPUT: true; the input reads as it did. -/
def fnExactBetterWaySpec : ChangeSpec := { name := "fnExactBetterWay", fn := fun _ => fun
  | [d1, d2] => { results := [.lit (.bool true)], args := [d1, d2] }
  | _ => none }
def fnExactBetterWayRow : OpenClaim := { program := "ytgobjhaodlmoaaa", sum := "a2ce011462fb07294a256283a0a978a1841b275e36685b8698e7c87f3b5f02a9", func := "loop.example/g03304/laws.FnExactBetterWay", spec := "fnExactBetterWay", apart := false }
def FnExactBetterWaySaid : Prop := fnExactBetterWayRow.holds Try.pinned (OpenSpec.ofChange fnExactBetterWaySpec)

/-- ITS FALSE NEIGHBOUR: 'it returns false'. Refute it at one input. -/
def fnExactBetterWayWrong : ChangeSpec := { name := "fnExactBetterWay", fn := fun _ => fun
  | [d1, d2] => { results := [.lit (.bool false)], args := [d1, d2] }
  | _ => none }
def FnExactBetterWayWrongFalsely : Prop := fnExactBetterWayRow.holds Try.pinned (OpenSpec.ofChange fnExactBetterWayWrong)

/-- 'laws.FnExactNeedsOk': WHATEVER THE INPUT: true; the input reads as it did. -/
def fnExactNeedsOkSpec : ChangeSpec := { name := "fnExactNeedsOk", fn := fun _ => fun
  | [d] => { results := [.lit (.bool true)], args := [d] }
  | _ => none }
def fnExactNeedsOkRow : OpenClaim := { program := "ytgobjhaodlmoaaa", sum := "a2ce011462fb07294a256283a0a978a1841b275e36685b8698e7c87f3b5f02a9", func := "loop.example/g03304/laws.FnExactNeedsOk", spec := "fnExactNeedsOk", apart := false }
def FnExactNeedsOkSaid : Prop := fnExactNeedsOkRow.holds Try.pinned (OpenSpec.ofChange fnExactNeedsOkSpec)

/-- ITS FALSE NEIGHBOUR: 'it returns false'. Refute it at one input. -/
def fnExactNeedsOkWrong : ChangeSpec := { name := "fnExactNeedsOk", fn := fun _ => fun
  | [d] => { results := [.lit (.bool false)], args := [d] }
  | _ => none }
def FnExactNeedsOkWrongFalsely : Prop := fnExactNeedsOkRow.holds Try.pinned (OpenSpec.ofChange fnExactNeedsOkWrong)

/-- 'laws.FnExactStripLength': WHATEVER THE INPUT: true; the input reads as it did. -/
def fnExactStripLengthSpec : ChangeSpec := { name := "fnExactStripLength", fn := fun _ => fun
  | [d1, d2] => { results := [.lit (.bool true)], args := [d1, d2] }
  | _ => none }
def fnExactStripLengthRow : OpenClaim := { program := "ytgobjhaodlmoaaa", sum := "a2ce011462fb07294a256283a0a978a1841b275e36685b8698e7c87f3b5f02a9", func := "loop.example/g03304/laws.FnExactStripLength", spec := "fnExactStripLength", apart := false }
def FnExactStripLengthSaid : Prop := fnExactStripLengthRow.holds Try.pinned (OpenSpec.ofChange fnExactStripLengthSpec)

/-- ITS FALSE NEIGHBOUR: 'it returns false'. Refute it at one input. -/
def fnExactStripLengthWrong : ChangeSpec := { name := "fnExactStripLength", fn := fun _ => fun
  | [d1, d2] => { results := [.lit (.bool false)], args := [d1, d2] }
  | _ => none }
def FnExactStripLengthWrongFalsely : Prop := fnExactStripLengthRow.holds Try.pinned (OpenSpec.ofChange fnExactStripLengthWrong)

/-- 'laws.FnExactLeastLength': WHATEVER THE INPUT: true; the input reads as it did. -/
def fnExactLeastLengthSpec : ChangeSpec := { name := "fnExactLeastLength", fn := fun _ => fun
  | [d1, d2] => { results := [.lit (.bool true)], args := [d1, d2] }
  | _ => none }
def fnExactLeastLengthRow : OpenClaim := { program := "ytgobjhaodlmoaaa", sum := "a2ce011462fb07294a256283a0a978a1841b275e36685b8698e7c87f3b5f02a9", func := "loop.example/g03304/laws.FnExactLeastLength", spec := "fnExactLeastLength", apart := false }
def FnExactLeastLengthSaid : Prop := fnExactLeastLengthRow.holds Try.pinned (OpenSpec.ofChange fnExactLeastLengthSpec)

/-- ITS FALSE NEIGHBOUR: 'it returns false'. Refute it at one input. -/
def fnExactLeastLengthWrong : ChangeSpec := { name := "fnExactLeastLength", fn := fun _ => fun
  | [d1, d2] => { results := [.lit (.bool false)], args := [d1, d2] }
  | _ => none }
def FnExactLeastLengthWrongFalsely : Prop := fnExactLeastLengthRow.holds Try.pinned (OpenSpec.ofChange fnExactLeastLengthWrong)

/-- 'laws.FnExactGroupNeeds': WHATEVER THE INPUT: true; the input reads as it did. -/
def fnExactGroupNeedsSpec : ChangeSpec := { name := "fnExactGroupNeeds", fn := fun _ => fun
  | [d] => { results := [.lit (.bool true)], args := [d] }
  | _ => none }
def fnExactGroupNeedsRow : OpenClaim := { program := "ytgobjhaodlmoaaa", sum := "a2ce011462fb07294a256283a0a978a1841b275e36685b8698e7c87f3b5f02a9", func := "loop.example/g03304/laws.FnExactGroupNeeds", spec := "fnExactGroupNeeds", apart := false }
def FnExactGroupNeedsSaid : Prop := fnExactGroupNeedsRow.holds Try.pinned (OpenSpec.ofChange fnExactGroupNeedsSpec)

/-- ITS FALSE NEIGHBOUR: 'it returns false'. Refute it at one input. -/
def fnExactGroupNeedsWrong : ChangeSpec := { name := "fnExactGroupNeeds", fn := fun _ => fun
  | [d] => { results := [.lit (.bool false)], args := [d] }
  | _ => none }
def FnExactGroupNeedsWrongFalsely : Prop := fnExactGroupNeedsRow.holds Try.pinned (OpenSpec.ofChange fnExactGroupNeedsWrong)

/-- 'laws.FnStrips': WHATEVER THE INPUT: true; the input reads as it did. -/
def fnStripsSpec : ChangeSpec := { name := "fnStrips", fn := fun _ => fun
  | [d] => { results := [.lit (.bool true)], args := [d] }
  | _ => none }
def fnStripsRow : OpenClaim := { program := "ytgobjhaodlmoaaa", sum := "a2ce011462fb07294a256283a0a978a1841b275e36685b8698e7c87f3b5f02a9", func := "loop.example/g03304/laws.FnStrips", spec := "fnStrips", apart := false }
def FnStripsSaid : Prop := fnStripsRow.holds Try.pinned (OpenSpec.ofChange fnStripsSpec)

/-- ITS FALSE NEIGHBOUR: 'it returns false'. Refute it at one input. -/
def fnStripsWrong : ChangeSpec := { name := "fnStrips", fn := fun _ => fun
  | [d] => { results := [.lit (.bool false)], args := [d] }
  | _ => none }
def FnStripsWrongFalsely : Prop := fnStripsRow.holds Try.pinned (OpenSpec.ofChange fnStripsWrong)

/-- 'laws.FnExactColorsMeet': WHATEVER THE INPUT: true; the input reads as it did. -/
def fnExactColorsMeetSpec : ChangeSpec := { name := "fnExactColorsMeet", fn := fun _ => fun
  | [d1, d2, d3, d4] => { results := [.lit (.bool true)], args := [d1, d2, d3, d4] }
  | _ => none }
def fnExactColorsMeetRow : OpenClaim := { program := "ytgobjhaodlmoaaa", sum := "a2ce011462fb07294a256283a0a978a1841b275e36685b8698e7c87f3b5f02a9", func := "loop.example/g03304/laws.FnExactColorsMeet", spec := "fnExactColorsMeet", apart := false }
def FnExactColorsMeetSaid : Prop := fnExactColorsMeetRow.holds Try.pinned (OpenSpec.ofChange fnExactColorsMeetSpec)

/-- ITS FALSE NEIGHBOUR: 'it returns false'. Refute it at one input. -/
def fnExactColorsMeetWrong : ChangeSpec := { name := "fnExactColorsMeet", fn := fun _ => fun
  | [d1, d2, d3, d4] => { results := [.lit (.bool false)], args := [d1, d2, d3, d4] }
  | _ => none }
def FnExactColorsMeetWrongFalsely : Prop := fnExactColorsMeetRow.holds Try.pinned (OpenSpec.ofChange fnExactColorsMeetWrong)

/-- 'laws.FnBorders': WHATEVER THE INPUT: true; the input reads as it did. -/
def fnBordersSpec : ChangeSpec := { name := "fnBorders", fn := fun _ => fun
  | [d] => { results := [.lit (.bool true)], args := [d] }
  | _ => none }
def fnBordersRow : OpenClaim := { program := "ytgobjhaodlmoaaa", sum := "a2ce011462fb07294a256283a0a978a1841b275e36685b8698e7c87f3b5f02a9", func := "loop.example/g03304/laws.FnBorders", spec := "fnBorders", apart := false }
def FnBordersSaid : Prop := fnBordersRow.holds Try.pinned (OpenSpec.ofChange fnBordersSpec)

/-- ITS FALSE NEIGHBOUR: 'it returns false'. Refute it at one input. -/
def fnBordersWrong : ChangeSpec := { name := "fnBorders", fn := fun _ => fun
  | [d] => { results := [.lit (.bool false)], args := [d] }
  | _ => none }
def FnBordersWrongFalsely : Prop := fnBordersRow.holds Try.pinned (OpenSpec.ofChange fnBordersWrong)

/-- 'laws.FnExactPrintsOk': WHATEVER THE INPUT: true; the input reads as it did. -/
def fnExactPrintsOkSpec : ChangeSpec := { name := "fnExactPrintsOk", fn := fun _ => fun
  | [d] => { results := [.lit (.bool true)], args := [d] }
  | _ => none }
def fnExactPrintsOkRow : OpenClaim := { program := "ytgobjhaodlmoaaa", sum := "a2ce011462fb07294a256283a0a978a1841b275e36685b8698e7c87f3b5f02a9", func := "loop.example/g03304/laws.FnExactPrintsOk", spec := "fnExactPrintsOk", apart := false }
def FnExactPrintsOkSaid : Prop := fnExactPrintsOkRow.holds Try.pinned (OpenSpec.ofChange fnExactPrintsOkSpec)

/-- ITS FALSE NEIGHBOUR: 'it returns false'. Refute it at one input. -/
def fnExactPrintsOkWrong : ChangeSpec := { name := "fnExactPrintsOk", fn := fun _ => fun
  | [d] => { results := [.lit (.bool false)], args := [d] }
  | _ => none }
def FnExactPrintsOkWrongFalsely : Prop := fnExactPrintsOkRow.holds Try.pinned (OpenSpec.ofChange fnExactPrintsOkWrong)

/- THE SECOND FORM. 'bulk': how many values and letters a reading holds, each counted each time it is reached (what is shared counts as often as it is met; a slice's spare places count too). A statement '..UptoSaid' is the law's where the arguments, and the package variables that the reading takes, are together of bulk at most 1048576: NARROWER than '..Said'. Prove '..Said' where nothing that the law and all that it calls make is longer than what came in: it says more and counts as full. Else prove '..UptoSaid'. A law counts once. -/
mutual
def uptoBulk {H : Type} : DataW H → Nat
  | .lit (.string bytes) => bytes.length + 1
  | .lit _ => 1
  | .nil => 1
  | .ptr d => uptoBulk d + 1
  | .slice elems spare => uptoBulkAll elems + uptoBulkAll spare + 1
  | .agg parts => uptoBulkAll parts + 1
  | .iface _ d => uptoBulk d + 1
  | .map entries => uptoBulkEntries entries + 1
  | .held _ => 1
def uptoBulkAll {H : Type} : List (DataW H) → Nat
  | [] => 0
  | d :: r => uptoBulk d + uptoBulkAll r
def uptoBulkEntries {H : Type} : List (Lit × DataW H) → Nat
  | [] => 0
  | x :: r => uptoBulkEntry x + uptoBulkEntries r
def uptoBulkEntry {H : Type} : Lit × DataW H → Nat
  | (.string bytes, d) => bytes.length + uptoBulk d + 1
  | (_, d) => uptoBulk d + 1
 end
def uptoSmall : (H : Type) → List (DataW H) → Bool := fun _ ds => decide (uptoBulkAll ds ≤ 1048576)
def OpenSpec.upto (s : _root_.Go.ChangeSpec) : _root_.Go.OpenSpec := { _root_.Go.OpenSpec.ofChange s with cond := some uptoSmall }

/-- 'laws.FnExactStripCount', WHERE WHAT IT READS IS OF BULK AT MOST 1048576: true; the input reads as it did. -/
def fnExactStripCountUptoRow : OpenClaim := { program := "ytgobjhaodlmoaaa", sum := "a2ce011462fb07294a256283a0a978a1841b275e36685b8698e7c87f3b5f02a9", func := "loop.example/g03304/laws.FnExactStripCount", spec := "fnExactStripCount", apart := false, narrowed := true }
def FnExactStripCountUptoSaid : Prop := fnExactStripCountUptoRow.holds Try.pinned (OpenSpec.upto fnExactStripCountSpec)

/-- 'laws.FnExactBetterWay', WHERE WHAT IT READS IS OF BULK AT MOST 1048576: true; the input reads as it did. -/
def fnExactBetterWayUptoRow : OpenClaim := { program := "ytgobjhaodlmoaaa", sum := "a2ce011462fb07294a256283a0a978a1841b275e36685b8698e7c87f3b5f02a9", func := "loop.example/g03304/laws.FnExactBetterWay", spec := "fnExactBetterWay", apart := false, narrowed := true }
def FnExactBetterWayUptoSaid : Prop := fnExactBetterWayUptoRow.holds Try.pinned (OpenSpec.upto fnExactBetterWaySpec)

/-- 'laws.FnExactNeedsOk', WHERE WHAT IT READS IS OF BULK AT MOST 1048576: true; the input reads as it did. -/
def fnExactNeedsOkUptoRow : OpenClaim := { program := "ytgobjhaodlmoaaa", sum := "a2ce011462fb07294a256283a0a978a1841b275e36685b8698e7c87f3b5f02a9", func := "loop.example/g03304/laws.FnExactNeedsOk", spec := "fnExactNeedsOk", apart := false, narrowed := true }
def FnExactNeedsOkUptoSaid : Prop := fnExactNeedsOkUptoRow.holds Try.pinned (OpenSpec.upto fnExactNeedsOkSpec)

/-- 'laws.FnExactStripLength', WHERE WHAT IT READS IS OF BULK AT MOST 1048576: true; the input reads as it did. -/
def fnExactStripLengthUptoRow : OpenClaim := { program := "ytgobjhaodlmoaaa", sum := "a2ce011462fb07294a256283a0a978a1841b275e36685b8698e7c87f3b5f02a9", func := "loop.example/g03304/laws.FnExactStripLength", spec := "fnExactStripLength", apart := false, narrowed := true }
def FnExactStripLengthUptoSaid : Prop := fnExactStripLengthUptoRow.holds Try.pinned (OpenSpec.upto fnExactStripLengthSpec)

/-- 'laws.FnExactLeastLength', WHERE WHAT IT READS IS OF BULK AT MOST 1048576: true; the input reads as it did. -/
def fnExactLeastLengthUptoRow : OpenClaim := { program := "ytgobjhaodlmoaaa", sum := "a2ce011462fb07294a256283a0a978a1841b275e36685b8698e7c87f3b5f02a9", func := "loop.example/g03304/laws.FnExactLeastLength", spec := "fnExactLeastLength", apart := false, narrowed := true }
def FnExactLeastLengthUptoSaid : Prop := fnExactLeastLengthUptoRow.holds Try.pinned (OpenSpec.upto fnExactLeastLengthSpec)

/-- 'laws.FnExactGroupNeeds', WHERE WHAT IT READS IS OF BULK AT MOST 1048576: true; the input reads as it did. -/
def fnExactGroupNeedsUptoRow : OpenClaim := { program := "ytgobjhaodlmoaaa", sum := "a2ce011462fb07294a256283a0a978a1841b275e36685b8698e7c87f3b5f02a9", func := "loop.example/g03304/laws.FnExactGroupNeeds", spec := "fnExactGroupNeeds", apart := false, narrowed := true }
def FnExactGroupNeedsUptoSaid : Prop := fnExactGroupNeedsUptoRow.holds Try.pinned (OpenSpec.upto fnExactGroupNeedsSpec)

/-- 'laws.FnStrips', WHERE WHAT IT READS IS OF BULK AT MOST 1048576: true; the input reads as it did. -/
def fnStripsUptoRow : OpenClaim := { program := "ytgobjhaodlmoaaa", sum := "a2ce011462fb07294a256283a0a978a1841b275e36685b8698e7c87f3b5f02a9", func := "loop.example/g03304/laws.FnStrips", spec := "fnStrips", apart := false, narrowed := true }
def FnStripsUptoSaid : Prop := fnStripsUptoRow.holds Try.pinned (OpenSpec.upto fnStripsSpec)

/-- 'laws.FnExactColorsMeet', WHERE WHAT IT READS IS OF BULK AT MOST 1048576: true; the input reads as it did. -/
def fnExactColorsMeetUptoRow : OpenClaim := { program := "ytgobjhaodlmoaaa", sum := "a2ce011462fb07294a256283a0a978a1841b275e36685b8698e7c87f3b5f02a9", func := "loop.example/g03304/laws.FnExactColorsMeet", spec := "fnExactColorsMeet", apart := false, narrowed := true }
def FnExactColorsMeetUptoSaid : Prop := fnExactColorsMeetUptoRow.holds Try.pinned (OpenSpec.upto fnExactColorsMeetSpec)

/-- 'laws.FnBorders', WHERE WHAT IT READS IS OF BULK AT MOST 1048576: true; the input reads as it did. -/
def fnBordersUptoRow : OpenClaim := { program := "ytgobjhaodlmoaaa", sum := "a2ce011462fb07294a256283a0a978a1841b275e36685b8698e7c87f3b5f02a9", func := "loop.example/g03304/laws.FnBorders", spec := "fnBorders", apart := false, narrowed := true }
def FnBordersUptoSaid : Prop := fnBordersUptoRow.holds Try.pinned (OpenSpec.upto fnBordersSpec)

/-- 'laws.FnExactPrintsOk', WHERE WHAT IT READS IS OF BULK AT MOST 1048576: true; the input reads as it did. -/
def fnExactPrintsOkUptoRow : OpenClaim := { program := "ytgobjhaodlmoaaa", sum := "a2ce011462fb07294a256283a0a978a1841b275e36685b8698e7c87f3b5f02a9", func := "loop.example/g03304/laws.FnExactPrintsOk", spec := "fnExactPrintsOk", apart := false, narrowed := true }
def FnExactPrintsOkUptoSaid : Prop := fnExactPrintsOkUptoRow.holds Try.pinned (OpenSpec.upto fnExactPrintsOkSpec)

end Rows
end Go.Proofs.Ytgobjhaodlmoaaa
