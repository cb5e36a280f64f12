/-
  A slice of integers that the call makes, and then appends to or writes in.
-/
import Derived.Test.YtmjdgplkcocgmaaRows
import Derived.Test.YtmjdgplkcocgmaaAcc
import Derived.Laws.OwnMore
set_option linter.unusedVariables false
namespace Go.Proofs.Ytmjdgplkcocgmaa
open Go.RowKit

theorem infoIntA : (Try.prog.info? 3).map (fun i => (i.zero, i.size, i.bytes)) = some (some (.int .i64 0), 1, 8) := by kernel_rfl

theorem flat_ints (xs : List Int) : xs.flatMap intC = xs.map (Value.int .i64) := by
  induction xs with
  | nil => rfl
  | cons x xs ih => rw [List.flatMap_cons, ih]; rfl
theorem Acc.ints_made (w : World) (lo : Nat) (e : TypeId) (n : Nat) (hn : n ≤ maxLen) (h : lo ≤ w.heap.size) {g : Nat} (hg : g = w.heap.size) :
    Acc (w.alloc (.cells (madeCells #[Value.int .i64 0] n) e)) lo e 1 (.slice (some ⟨g, 0, none⟩) n n) (List.replicate n (0 : Int)) intC := by
  subst hg
  have := World.ownsRow_lit (base := lo) (e := e) (size := 1) w (madeCells #[Value.int .i64 0] n) n h hn (by rw [size_madeCells]; omega)
  rw [toList_madeCells_one] at this
  unfold Acc
  rw [List.length_replicate, flat_ints, List.map_replicate]
  exact this
/-- The element at index p, as a cell. -/
theorem Acc.int_at {w : World} {lo : Nat} {e : TypeId} {v : Value} {d : List Int} (h : Acc w lo e 1 v d intC) {p : Nat} (hp : p < d.length) :
    ∃ g c, v = .slice (some ⟨g, 0, none⟩) d.length c ∧ lo ≤ g ∧ g < w.heap.size ∧ w.cell? ⟨g, p, none⟩ = some (.int .i64 (d.getD p 0)) ∧ w.frozen? ⟨g, p, none⟩ = false := by
  obtain ⟨A, c, rfl, hc, hO⟩ := h.own (fun _ => rfl)
  obtain ⟨g, T, rfl, h1, h2, hP⟩ := hO.2 (by omega)
  exact ⟨g, c, rfl, h1, h2, hP.int_at rfl hp, hP.frozen _⟩

end Go.Proofs.Ytmjdgplkcocgmaa
