/-
  A cell behind all that a row held, when that row grows.
-/
import Derived.Test.YtmjdgplkcocgmaaAccStep
set_option linter.unusedVariables false
namespace Go.Proofs.Ytmjdgplkcocgmaa
open Go.RowKit

theorem far_of {α : Type} {w w1 w3 : World} {lo sz : Nat} {e : TypeId} {v : Value} {xs : List α} {cells : α → List Value} (hacc : Acc w lo e sz v xs cells) (hg : w1.grownBy w3 v.ownBlock) {a : Addr} {u : Value} (h : w1.cell? a = some u)
    (hlt : w.heap.size ≤ a.block) : w3.cell? a = some u :=
  (World.cell?_of_block (hg.block a.block (block_lt_of_cell h) (fun e' => by have := (hacc.row e'.symm).2; omega))).trans h
/-- A cell ahead of all that a row may hold. -/
theorem near_of {α : Type} {w w1 w3 : World} {lo sz : Nat} {e : TypeId} {v : Value} {xs : List α} {cells : α → List Value} (hacc : Acc w lo e sz v xs cells) (hg : w1.grownBy w3 v.ownBlock) {a : Addr} {u : Value} (h : w1.cell? a = some u)
    (hlt : a.block < lo) : w3.cell? a = some u :=
  (World.cell?_of_block (hg.block a.block (block_lt_of_cell h) (fun e' => by have := (hacc.row e'.symm).1; omega))).trans h

end Go.Proofs.Ytmjdgplkcocgmaa
