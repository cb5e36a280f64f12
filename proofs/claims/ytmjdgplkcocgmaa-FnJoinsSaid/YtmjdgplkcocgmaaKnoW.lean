/-
  Contracts over cuts: the first part that can not be cut: words.
-/
import Derived.Test.YtmjdgplkcocgmaaKnoG
set_option linter.unusedVariables false
set_option linter.unusedSimpArgs false
namespace Go.Proofs.Ytmjdgplkcocgmaa
open Go.RowKit

def kw : Option Lay → Int
  | none => 0
  | some l => l.w
def kh : Option Lay → Int
  | none => 0
  | some l => l.h
def kp : Option Lay → List Patch
  | none => []
  | some l => l.ps
def KnotOut (W : World) (o : Option Lay) (e : Ending) (w' : World) : Prop :=
  ∃ A n c, e = .returned (.tuple #[.agg #[.int .i64 (kw o), .int .i64 (kh o), .slice A n c], .bool o.isSome]) ∧ n ≤ c ∧ Own w' W.heap.size w'.heap.size A n 5 (kp o) patchC ∧ Below W.heap.size W w'
theorem keep3 {w w' : World} {a0 a1 a2 : Addr} {u0 u1 u2 : Value} (h : w.cell? a0 = some u0 ∧ w.cell? a1 = some u1 ∧ w.cell? a2 = some u2) (hb : Below w.heap.size w w') : w'.cell? a0 = some u0 ∧ w'.cell? a1 = some u1 ∧ w'.cell? a2 = some u2 :=
  ⟨keepcell h.1 hb, keepcell h.2.1 hb, keepcell h.2.2 hb⟩
theorem knot_none' {w h : Int} {ps : List Patch} (k : layoutOk w h ps = false ∨ ps.length = 1) : firstKnot ⟨w, h, ps⟩ = none := knot_none (l := ⟨w, h, ps⟩) k


end Go.Proofs.Ytmjdgplkcocgmaa
