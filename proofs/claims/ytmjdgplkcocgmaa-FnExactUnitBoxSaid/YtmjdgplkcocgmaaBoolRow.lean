/-
  A row of flags that the call makes and writes in.
-/
import Derived.Test.YtmjdgplkcocgmaaRows
import Derived.Test.YtmjdgplkcocgmaaAcc
set_option linter.unusedVariables false
namespace Go.Proofs.Ytmjdgplkcocgmaa
open Go.RowKit

theorem infoBoolR : (Try.prog.info? 4).map (fun i => (i.zero, i.size, i.bytes)) = some (some (.bool false), 1, 1) := by kernel_rfl

/-- Block g holds the flags d, one a cell, none frozen. -/
def Flags (w : World) (g : Nat) (d : List Bool) : Prop := ∃ (c : Array Value) (T : TypeId), w.heap[g]? = some (.cells c T (0, 0)) ∧ ∀ p : Nat, p < d.length → c[p]? = some (.bool (d.getD p false))
theorem Flags.made (w : World) (T : TypeId) (n : Nat) : Flags (w.alloc (.cells (madeCells #[Value.bool false] n) T)) w.heap.size (List.replicate n false) :=
  ⟨_, T, heap_alloc_new w _, fun p hp => by
    rw [List.length_replicate] at hp
    have h1 : (List.replicate n false).getD p false = false := by
      rw [List.getD_eq_getElem?_getD, List.getElem?_replicate]
      split <;> rfl
    rw [h1]
    simp [madeCells, hp, Nat.mod_one]⟩
theorem Flags.lt {w : World} {g : Nat} {d : List Bool} (h : Flags w g d) : g < w.heap.size := by
  obtain ⟨c, T, hc, _⟩ := h
  exact heap_lt hc
theorem Flags.cell {w : World} {g : Nat} {d : List Bool} (h : Flags w g d) {p : Nat} (hp : p < d.length) : w.cell? ⟨g, p, none⟩ = some (.bool (d.getD p false)) := by
  obtain ⟨c, T, hc, hx⟩ := h
  rw [cell_of_row w g _ c T (0, 0) hc]
  exact hx p hp
theorem Flags.frozen {w : World} {g : Nat} {d : List Bool} (h : Flags w g d) (p : Nat) : w.frozen? ⟨g, p, none⟩ = false := by
  obtain ⟨c, T, hc, hx⟩ := h
  exact frozen_of_row w g p c T hc
theorem Flags.below {w w' : World} {g : Nat} {d : List Bool} (h : Flags w g d) (hb : Below w.heap.size w w') : Flags w' g d := by
  obtain ⟨c, T, hc, hx⟩ := h
  exact ⟨c, T, (hb.block g (heap_lt hc)).trans hc, hx⟩
theorem Flags.grow {w w' : World} {g : Nat} {d : List Bool} (h : Flags w g d) {row : Option Nat} (hg : w.grownBy w' row) (hne : some g ≠ row) : Flags w' g d := by
  obtain ⟨c, T, hc, hx⟩ := h
  exact ⟨c, T, (hg.block g (heap_lt hc) hne).trans hc, hx⟩
theorem Flags.set {w : World} {g : Nat} {d : List Bool} (h : Flags w g d) {p : Nat} (hp : p < d.length) (z : Bool) : Flags (w.setCell ⟨g, p, none⟩ (.bool z)) g (d.set p z) := by
  obtain ⟨c, T, hc, hx⟩ := h
  have hpc : p < c.size := (Array.getElem?_eq_some_iff.1 (hx p hp)).1
  refine ⟨c.setIfInBounds p (.bool z), T, by simp [World.setCell, Array.getElem?_modify, hc], fun q hq => ?_⟩
  rw [List.length_set] at hq
  rw [Array.getElem?_setIfInBounds, List.getD_eq_getElem?_getD, List.getElem?_set]
  by_cases e : p = q
  · subst e
    rw [if_pos rfl, if_pos hpc, if_pos rfl, if_pos hp]; rfl
  · rw [if_neg e, if_neg e, hx q hq, List.getD_eq_getElem?_getD]

end Go.Proofs.Ytmjdgplkcocgmaa
