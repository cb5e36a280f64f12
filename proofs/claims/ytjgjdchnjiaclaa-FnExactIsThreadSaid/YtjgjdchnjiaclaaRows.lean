/-
  No cell of these rows narrows 'for every input' (looked for: loops, veiled, ifaces, maps, wideKeys, modest, calm, conditions, laid).
  DERIVED. THE GIVEN ROWS OF THIS SEAT. 10 by the template 'for every input the law returns true; each argument reads behind the call as it read before'; 0 by the template 'total and deterministic' (their statements: YtjgjdchnjiaclaaTotals.lean).
  GIVEN WITH THE SEED: the statements are not yours to turn. If you find one false, say at which input.
  Laid BY PROGRAM, IN A SANDBOX (cutbox-rows.mjs): the forced cells as the released guide's own fill.sh prints them over the translation 203d6490e5f8cdc8… (all of the seat's roots in one cut). By AI agents, Wed Nov 11 2026. No macro, syntax, notation, axiom, sorry.
-/
import Derived.Test.YtjgjdchnjiaclaaChecked
import GoSem.Claim
import GoSem.ClaimJoined
import GoSem.ClaimMapViews
import Derived.JoinedTies
import Derived.KernelRfl
namespace Go.Proofs.Ytjgjdchnjiaclaa
/- THE CELL 'sum', in the pinned program and in every row, IS THE sha256 OF THE DUMP (.gsa) THAT YtjgjdchnjiaclaaProg.lean LOADS. Nothing in Lean hashes anything: it is a label: what it is worth is what the hold of that sum in a sandbox is worth. -/
noncomputable def Try.pinned : Pinned := { name := "ytjgjdchnjiaclaa", sum := "203d6490e5f8cdc86b9dba70c753165a5382634960aba30d72616a9c528afef3", checked := Try.checked }
namespace Rows
def none {H : Type} : Left H := { results := [], args := [] }

/-- 'laws.FnExactPressingOk': WHATEVER THE INPUT: true; the input reads as it did. -/
def fnExactPressingOkSpec : ChangeSpec := { name := "fnExactPressingOk", fn := fun _ => fun
  | [d] => { results := [.lit (.bool true)], args := [d] }
  | _ => none }
def fnExactPressingOkRow : OpenClaim := { program := "ytjgjdchnjiaclaa", sum := "203d6490e5f8cdc86b9dba70c753165a5382634960aba30d72616a9c528afef3", func := "loop.example/g03304/laws.FnExactPressingOk", spec := "fnExactPressingOk", apart := false }
def FnExactPressingOkSaid : Prop := fnExactPressingOkRow.holds Try.pinned (OpenSpec.ofChange fnExactPressingOkSpec)

/-- ITS FALSE NEIGHBOUR: 'it returns false'. Refute it at one input. -/
def fnExactPressingOkWrong : ChangeSpec := { name := "fnExactPressingOk", fn := fun _ => fun
  | [d] => { results := [.lit (.bool false)], args := [d] }
  | _ => none }
def FnExactPressingOkWrongFalsely : Prop := fnExactPressingOkRow.holds Try.pinned (OpenSpec.ofChange fnExactPressingOkWrong)

/-- 'laws.FnExactNestedRows': WHATEVER THE INPUT: true; the input reads as it did. -/
def fnExactNestedRowsSpec : ChangeSpec := { name := "fnExactNestedRows", fn := fun _ => fun
  | [d1, d2, d3] => { results := [.lit (.bool true)], args := [d1, d2, d3] }
  | _ => none }
def fnExactNestedRowsRow : OpenClaim := { program := "ytjgjdchnjiaclaa", sum := "203d6490e5f8cdc86b9dba70c753165a5382634960aba30d72616a9c528afef3", func := "loop.example/g03304/laws.FnExactNestedRows", spec := "fnExactNestedRows", apart := false }
def FnExactNestedRowsSaid : Prop := fnExactNestedRowsRow.holds Try.pinned (OpenSpec.ofChange fnExactNestedRowsSpec)

/-- ITS FALSE NEIGHBOUR: 'it returns false'. Refute it at one input. -/
def fnExactNestedRowsWrong : ChangeSpec := { name := "fnExactNestedRows", fn := fun _ => fun
  | [d1, d2, d3] => { results := [.lit (.bool false)], args := [d1, d2, d3] }
  | _ => none }
def FnExactNestedRowsWrongFalsely : Prop := fnExactNestedRowsRow.holds Try.pinned (OpenSpec.ofChange fnExactNestedRowsWrong)

/-- 'laws.FnExactClashesOf': WHATEVER THE INPUT: true; the input reads as it did. -/
def fnExactClashesOfSpec : ChangeSpec := { name := "fnExactClashesOf", fn := fun _ => fun
  | [d] => { results := [.lit (.bool true)], args := [d] }
  | _ => none }
def fnExactClashesOfRow : OpenClaim := { program := "ytjgjdchnjiaclaa", sum := "203d6490e5f8cdc86b9dba70c753165a5382634960aba30d72616a9c528afef3", func := "loop.example/g03304/laws.FnExactClashesOf", spec := "fnExactClashesOf", apart := false }
def FnExactClashesOfSaid : Prop := fnExactClashesOfRow.holds Try.pinned (OpenSpec.ofChange fnExactClashesOfSpec)

/-- ITS FALSE NEIGHBOUR: 'it returns false'. Refute it at one input. -/
def fnExactClashesOfWrong : ChangeSpec := { name := "fnExactClashesOf", fn := fun _ => fun
  | [d] => { results := [.lit (.bool false)], args := [d] }
  | _ => none }
def FnExactClashesOfWrongFalsely : Prop := fnExactClashesOfRow.holds Try.pinned (OpenSpec.ofChange fnExactClashesOfWrong)

/-- 'laws.FnExactFewestFlips': WHATEVER THE INPUT: true; the input reads as it did. -/
def fnExactFewestFlipsSpec : ChangeSpec := { name := "fnExactFewestFlips", fn := fun _ => fun
  | [d] => { results := [.lit (.bool true)], args := [d] }
  | _ => none }
def fnExactFewestFlipsRow : OpenClaim := { program := "ytjgjdchnjiaclaa", sum := "203d6490e5f8cdc86b9dba70c753165a5382634960aba30d72616a9c528afef3", func := "loop.example/g03304/laws.FnExactFewestFlips", spec := "fnExactFewestFlips", apart := false }
def FnExactFewestFlipsSaid : Prop := fnExactFewestFlipsRow.holds Try.pinned (OpenSpec.ofChange fnExactFewestFlipsSpec)

/-- ITS FALSE NEIGHBOUR: 'it returns false'. Refute it at one input. -/
def fnExactFewestFlipsWrong : ChangeSpec := { name := "fnExactFewestFlips", fn := fun _ => fun
  | [d] => { results := [.lit (.bool false)], args := [d] }
  | _ => none }
def FnExactFewestFlipsWrongFalsely : Prop := fnExactFewestFlipsRow.holds Try.pinned (OpenSpec.ofChange fnExactFewestFlipsWrong)

/-- 'laws.FnExactFlipRow': WHATEVER THE INPUT: true; the input reads as it did. -/
def fnExactFlipRowSpec : ChangeSpec := { name := "fnExactFlipRow", fn := fun _ => fun
  | [d1, d2] => { results := [.lit (.bool true)], args := [d1, d2] }
  | _ => none }
def fnExactFlipRowRow : OpenClaim := { program := "ytjgjdchnjiaclaa", sum := "203d6490e5f8cdc86b9dba70c753165a5382634960aba30d72616a9c528afef3", func := "loop.example/g03304/laws.FnExactFlipRow", spec := "fnExactFlipRow", apart := false }
def FnExactFlipRowSaid : Prop := fnExactFlipRowRow.holds Try.pinned (OpenSpec.ofChange fnExactFlipRowSpec)

/-- ITS FALSE NEIGHBOUR: 'it returns false'. Refute it at one input. -/
def fnExactFlipRowWrong : ChangeSpec := { name := "fnExactFlipRow", fn := fun _ => fun
  | [d1, d2] => { results := [.lit (.bool false)], args := [d1, d2] }
  | _ => none }
def FnExactFlipRowWrongFalsely : Prop := fnExactFlipRowRow.holds Try.pinned (OpenSpec.ofChange fnExactFlipRowWrong)

/-- 'laws.FnPressing': WHATEVER THE INPUT: true; the input reads as it did. -/
def fnPressingSpec : ChangeSpec := { name := "fnPressing", fn := fun _ => fun
  | [d] => { results := [.lit (.bool true)], args := [d] }
  | _ => none }
def fnPressingRow : OpenClaim := { program := "ytjgjdchnjiaclaa", sum := "203d6490e5f8cdc86b9dba70c753165a5382634960aba30d72616a9c528afef3", func := "loop.example/g03304/laws.FnPressing", spec := "fnPressing", apart := false }
def FnPressingSaid : Prop := fnPressingRow.holds Try.pinned (OpenSpec.ofChange fnPressingSpec)

/-- ITS FALSE NEIGHBOUR: 'it returns false'. Refute it at one input. -/
def fnPressingWrong : ChangeSpec := { name := "fnPressing", fn := fun _ => fun
  | [d] => { results := [.lit (.bool false)], args := [d] }
  | _ => none }
def FnPressingWrongFalsely : Prop := fnPressingRow.holds Try.pinned (OpenSpec.ofChange fnPressingWrong)

/-- 'laws.FnExactLinesOk': WHATEVER THE INPUT: true; the input reads as it did. -/
def fnExactLinesOkSpec : ChangeSpec := { name := "fnExactLinesOk", fn := fun _ => fun
  | [d1, d2] => { results := [.lit (.bool true)], args := [d1, d2] }
  | _ => none }
def fnExactLinesOkRow : OpenClaim := { program := "ytjgjdchnjiaclaa", sum := "203d6490e5f8cdc86b9dba70c753165a5382634960aba30d72616a9c528afef3", func := "loop.example/g03304/laws.FnExactLinesOk", spec := "fnExactLinesOk", apart := false }
def FnExactLinesOkSaid : Prop := fnExactLinesOkRow.holds Try.pinned (OpenSpec.ofChange fnExactLinesOkSpec)

/-- ITS FALSE NEIGHBOUR: 'it returns false'. Refute it at one input. -/
def fnExactLinesOkWrong : ChangeSpec := { name := "fnExactLinesOk", fn := fun _ => fun
  | [d1, d2] => { results := [.lit (.bool false)], args := [d1, d2] }
  | _ => none }
def FnExactLinesOkWrongFalsely : Prop := fnExactLinesOkRow.holds Try.pinned (OpenSpec.ofChange fnExactLinesOkWrong)

/-- 'laws.FnExactAreJoined': WHATEVER THE INPUT: true; the input reads as it did. -/
def fnExactAreJoinedSpec : ChangeSpec := { name := "fnExactAreJoined", fn := fun _ => fun
  | [d1, d2] => { results := [.lit (.bool true)], args := [d1, d2] }
  | _ => none }
def fnExactAreJoinedRow : OpenClaim := { program := "ytjgjdchnjiaclaa", sum := "203d6490e5f8cdc86b9dba70c753165a5382634960aba30d72616a9c528afef3", func := "loop.example/g03304/laws.FnExactAreJoined", spec := "fnExactAreJoined", apart := false }
def FnExactAreJoinedSaid : Prop := fnExactAreJoinedRow.holds Try.pinned (OpenSpec.ofChange fnExactAreJoinedSpec)

/-- ITS FALSE NEIGHBOUR: 'it returns false'. Refute it at one input. -/
def fnExactAreJoinedWrong : ChangeSpec := { name := "fnExactAreJoined", fn := fun _ => fun
  | [d1, d2] => { results := [.lit (.bool false)], args := [d1, d2] }
  | _ => none }
def FnExactAreJoinedWrongFalsely : Prop := fnExactAreJoinedRow.holds Try.pinned (OpenSpec.ofChange fnExactAreJoinedWrong)

/-- 'laws.FnExactIsThread': WHATEVER THE INPUT: true; the input reads as it did. -/
def fnExactIsThreadSpec : ChangeSpec := { name := "fnExactIsThread", fn := fun _ => fun
  | [d1, d2, d3] => { results := [.lit (.bool true)], args := [d1, d2, d3] }
  | _ => none }
def fnExactIsThreadRow : OpenClaim := { program := "ytjgjdchnjiaclaa", sum := "203d6490e5f8cdc86b9dba70c753165a5382634960aba30d72616a9c528afef3", func := "loop.example/g03304/laws.FnExactIsThread", spec := "fnExactIsThread", apart := false }
def FnExactIsThreadSaid : Prop := fnExactIsThreadRow.holds Try.pinned (OpenSpec.ofChange fnExactIsThreadSpec)

/-- ITS FALSE NEIGHBOUR: 'it returns false'. Refute it at one input. -/
def fnExactIsThreadWrong : ChangeSpec := { name := "fnExactIsThread", fn := fun _ => fun
  | [d1, d2, d3] => { results := [.lit (.bool false)], args := [d1, d2, d3] }
  | _ => none }
def FnExactIsThreadWrongFalsely : Prop := fnExactIsThreadRow.holds Try.pinned (OpenSpec.ofChange fnExactIsThreadWrong)

/-- 'laws.FnExactOddPoints': WHATEVER THE INPUT: true; the input reads as it did. -/
def fnExactOddPointsSpec : ChangeSpec := { name := "fnExactOddPoints", fn := fun _ => fun
  | [d1, d2] => { results := [.lit (.bool true)], args := [d1, d2] }
  | _ => none }
def fnExactOddPointsRow : OpenClaim := { program := "ytjgjdchnjiaclaa", sum := "203d6490e5f8cdc86b9dba70c753165a5382634960aba30d72616a9c528afef3", func := "loop.example/g03304/laws.FnExactOddPoints", spec := "fnExactOddPoints", apart := false }
def FnExactOddPointsSaid : Prop := fnExactOddPointsRow.holds Try.pinned (OpenSpec.ofChange fnExactOddPointsSpec)

/-- ITS FALSE NEIGHBOUR: 'it returns false'. Refute it at one input. -/
def fnExactOddPointsWrong : ChangeSpec := { name := "fnExactOddPoints", fn := fun _ => fun
  | [d1, d2] => { results := [.lit (.bool false)], args := [d1, d2] }
  | _ => none }
def FnExactOddPointsWrongFalsely : Prop := fnExactOddPointsRow.holds Try.pinned (OpenSpec.ofChange fnExactOddPointsWrong)

/- THE SECOND FORM. 'bulk': how many values and letters a reading holds, each counted each time it is reached (what is shared counts as often as it is met; a slice's spare places count too). A statement '..UptoSaid' is the law's where the arguments, and the package variables that the reading takes, are together of bulk at most 1048576: NARROWER than '..Said'. Prove '..Said' where nothing that the law and all that it calls make is longer than what came in: it says more and counts as full. Else prove '..UptoSaid'. A law counts once. -/
mutual
def uptoBulk {H : Type} : DataW H → Nat
  | .lit (.string bytes) => bytes.length + 1
  | .lit _ => 1
  | .nil => 1
  | .ptr d => uptoBulk d + 1
  | .slice elems spare => uptoBulkAll elems + uptoBulkAll spare + 1
  | .agg parts => uptoBulkAll parts + 1
  | .iface _ d => uptoBulk d + 1
  | .map entries => uptoBulkEntries entries + 1
  | .held _ => 1
def uptoBulkAll {H : Type} : List (DataW H) → Nat
  | [] => 0
  | d :: r => uptoBulk d + uptoBulkAll r
def uptoBulkEntries {H : Type} : List (Lit × DataW H) → Nat
  | [] => 0
  | x :: r => uptoBulkEntry x + uptoBulkEntries r
def uptoBulkEntry {H : Type} : Lit × DataW H → Nat
  | (.string bytes, d) => bytes.length + uptoBulk d + 1
  | (_, d) => uptoBulk d + 1
 end
def uptoSmall : (H : Type) → List (DataW H) → Bool := fun _ ds => decide (uptoBulkAll ds ≤ 1048576)
def OpenSpec.upto (s : _root_.Go.ChangeSpec) : _root_.Go.OpenSpec := { _root_.Go.OpenSpec.ofChange s with cond := some uptoSmall }

/-- 'laws.FnExactPressingOk', WHERE WHAT IT READS IS OF BULK AT MOST 1048576: true; the input reads as it did. -/
def fnExactPressingOkUptoRow : OpenClaim := { program := "ytjgjdchnjiaclaa", sum := "203d6490e5f8cdc86b9dba70c753165a5382634960aba30d72616a9c528afef3", func := "loop.example/g03304/laws.FnExactPressingOk", spec := "fnExactPressingOk", apart := false, narrowed := true }
def FnExactPressingOkUptoSaid : Prop := fnExactPressingOkUptoRow.holds Try.pinned (OpenSpec.upto fnExactPressingOkSpec)

/-- 'laws.FnExactNestedRows', WHERE WHAT IT READS IS OF BULK AT MOST 1048576: true; the input reads as it did. -/
def fnExactNestedRowsUptoRow : OpenClaim := { program := "ytjgjdchnjiaclaa", sum := "203d6490e5f8cdc86b9dba70c753165a5382634960aba30d72616a9c528afef3", func := "loop.example/g03304/laws.FnExactNestedRows", spec := "fnExactNestedRows", apart := false, narrowed := true }
def FnExactNestedRowsUptoSaid : Prop := fnExactNestedRowsUptoRow.holds Try.pinned (OpenSpec.upto fnExactNestedRowsSpec)

/-- 'laws.FnExactClashesOf', WHERE WHAT IT READS IS OF BULK AT MOST 1048576: true; the input reads as it did. -/
def fnExactClashesOfUptoRow : OpenClaim := { program := "ytjgjdchnjiaclaa", sum := "203d6490e5f8cdc86b9dba70c753165a5382634960aba30d72616a9c528afef3", func := "loop.example/g03304/laws.FnExactClashesOf", spec := "fnExactClashesOf", apart := false, narrowed := true }
def FnExactClashesOfUptoSaid : Prop := fnExactClashesOfUptoRow.holds Try.pinned (OpenSpec.upto fnExactClashesOfSpec)

/-- 'laws.FnExactFewestFlips', WHERE WHAT IT READS IS OF BULK AT MOST 1048576: true; the input reads as it did. -/
def fnExactFewestFlipsUptoRow : OpenClaim := { program := "ytjgjdchnjiaclaa", sum := "203d6490e5f8cdc86b9dba70c753165a5382634960aba30d72616a9c528afef3", func := "loop.example/g03304/laws.FnExactFewestFlips", spec := "fnExactFewestFlips", apart := false, narrowed := true }
def FnExactFewestFlipsUptoSaid : Prop := fnExactFewestFlipsUptoRow.holds Try.pinned (OpenSpec.upto fnExactFewestFlipsSpec)

/-- 'laws.FnExactFlipRow', WHERE WHAT IT READS IS OF BULK AT MOST 1048576: true; the input reads as it did. -/
def fnExactFlipRowUptoRow : OpenClaim := { program := "ytjgjdchnjiaclaa", sum := "203d6490e5f8cdc86b9dba70c753165a5382634960aba30d72616a9c528afef3", func := "loop.example/g03304/laws.FnExactFlipRow", spec := "fnExactFlipRow", apart := false, narrowed := true }
def FnExactFlipRowUptoSaid : Prop := fnExactFlipRowUptoRow.holds Try.pinned (OpenSpec.upto fnExactFlipRowSpec)

/-- 'laws.FnPressing', WHERE WHAT IT READS IS OF BULK AT MOST 1048576: true; the input reads as it did. -/
def fnPressingUptoRow : OpenClaim := { program := "ytjgjdchnjiaclaa", sum := "203d6490e5f8cdc86b9dba70c753165a5382634960aba30d72616a9c528afef3", func := "loop.example/g03304/laws.FnPressing", spec := "fnPressing", apart := false, narrowed := true }
def FnPressingUptoSaid : Prop := fnPressingUptoRow.holds Try.pinned (OpenSpec.upto fnPressingSpec)

/-- 'laws.FnExactLinesOk', WHERE WHAT IT READS IS OF BULK AT MOST 1048576: true; the input reads as it did. -/
def fnExactLinesOkUptoRow : OpenClaim := { program := "ytjgjdchnjiaclaa", sum := "203d6490e5f8cdc86b9dba70c753165a5382634960aba30d72616a9c528afef3", func := "loop.example/g03304/laws.FnExactLinesOk", spec := "fnExactLinesOk", apart := false, narrowed := true }
def FnExactLinesOkUptoSaid : Prop := fnExactLinesOkUptoRow.holds Try.pinned (OpenSpec.upto fnExactLinesOkSpec)

/-- 'laws.FnExactAreJoined', WHERE WHAT IT READS IS OF BULK AT MOST 1048576: true; the input reads as it did. -/
def fnExactAreJoinedUptoRow : OpenClaim := { program := "ytjgjdchnjiaclaa", sum := "203d6490e5f8cdc86b9dba70c753165a5382634960aba30d72616a9c528afef3", func := "loop.example/g03304/laws.FnExactAreJoined", spec := "fnExactAreJoined", apart := false, narrowed := true }
def FnExactAreJoinedUptoSaid : Prop := fnExactAreJoinedUptoRow.holds Try.pinned (OpenSpec.upto fnExactAreJoinedSpec)

/-- 'laws.FnExactIsThread', WHERE WHAT IT READS IS OF BULK AT MOST 1048576: true; the input reads as it did. -/
def fnExactIsThreadUptoRow : OpenClaim := { program := "ytjgjdchnjiaclaa", sum := "203d6490e5f8cdc86b9dba70c753165a5382634960aba30d72616a9c528afef3", func := "loop.example/g03304/laws.FnExactIsThread", spec := "fnExactIsThread", apart := false, narrowed := true }
def FnExactIsThreadUptoSaid : Prop := fnExactIsThreadUptoRow.holds Try.pinned (OpenSpec.upto fnExactIsThreadSpec)

/-- 'laws.FnExactOddPoints', WHERE WHAT IT READS IS OF BULK AT MOST 1048576: true; the input reads as it did. -/
def fnExactOddPointsUptoRow : OpenClaim := { program := "ytjgjdchnjiaclaa", sum := "203d6490e5f8cdc86b9dba70c753165a5382634960aba30d72616a9c528afef3", func := "loop.example/g03304/laws.FnExactOddPoints", spec := "fnExactOddPoints", apart := false, narrowed := true }
def FnExactOddPointsUptoSaid : Prop := fnExactOddPointsUptoRow.holds Try.pinned (OpenSpec.upto fnExactOddPointsSpec)

end Rows
end Go.Proofs.Ytjgjdchnjiaclaa
