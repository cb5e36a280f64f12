/-
  A field of an element of a slice that the call has built is written.
-/
import Derived.Test.YtmjdgplkcocgmaaAcc
import Derived.Laws.OwnMore
set_option linter.unusedVariables false
namespace Go.Proofs.Ytmjdgplkcocgmaa
open Go.RowKit

theorem flat_set {α : Type} {sz : Nat} {cells : α → List Value} (hl : ∀ y, (cells y).length = sz) : ∀ {xs : List α} {p : Nat} {x y : α} {j : Nat} {u : Value}, xs[p]? = some x → j < sz → cells y = (cells x).set j u →
    (xs.flatMap cells).set (p * sz + j) u = (xs.set p y).flatMap cells := by
  intro xs
  induction xs with
  | nil => intro p x y j u h; simp at h
  | cons z zs ih =>
    intro p x y j u h hj hy
    rw [List.flatMap_cons]
    cases p with
    | zero =>
      simp at h
      subst h
      rw [Nat.zero_mul, Nat.zero_add, List.set_append_left _ _ (by rw [hl]; exact hj), List.set_cons_zero, List.flatMap_cons, hy]
    | succ p =>
      rw [List.set_append_right _ _ (by rw [hl, Nat.add_mul]; omega), List.set_cons_succ, List.flatMap_cons, hl, ← ih (by simpa using h) hj hy]
      congr 2
      rw [Nat.add_mul]; omega
theorem Acc.put {α : Type} {w : World} {lo sz g c : Nat} {e : TypeId} {xs : List α} {cells : α → List Value} (h : Acc w lo e sz (.slice (some ⟨g, 0, none⟩) xs.length c) xs cells) (hl : ∀ y, (cells y).length = sz) {p j : Nat} {x y : α} {u : Value}
    (hx : xs[p]? = some x) (hj : j < sz) (hy : cells y = (cells x).set j u) :
    Acc (w.setCell ⟨g, p * sz + j, none⟩ u) lo e sz (.slice (some ⟨g, 0, none⟩) xs.length c) (xs.set p y) cells ∧ w.grownBy (w.setCell ⟨g, p * sz + j, none⟩ u) (some g) := by
  obtain ⟨h1, h2⟩ := World.ownsRow.stored (w := w) (e := e) (base := lo) (size := sz) (g := g) (n := xs.length) (cap := c) (xs := xs.flatMap cells) h (p * sz + j) u
  refine ⟨?_, h2⟩
  unfold Acc
  rw [List.length_set, ← flat_set hl hx hj hy]
  exact h1
/-- Where the cells of element p lie. -/
theorem Acc.cells_at {α : Type} {w : World} {lo sz : Nat} {e : TypeId} {v : Value} {xs : List α} {cells : α → List Value} (h : Acc w lo e sz v xs cells) (hl : ∀ y, (cells y).length = sz) {p : Nat} {x : α} (hx : xs[p]? = some x) :
    ∃ g c, v = .slice (some ⟨g, 0, none⟩) xs.length c ∧ lo ≤ g ∧ g < w.heap.size ∧ (∀ j u, (cells x)[j]? = some u → w.cell? ⟨g, p * sz + j, none⟩ = some u) ∧ ∀ o, w.frozen? ⟨g, o, none⟩ = false := by
  have hp := (List.getElem?_eq_some_iff.1 hx).1
  obtain ⟨A, c, rfl, hc, hO⟩ := h.own hl
  obtain ⟨g, T, rfl, h1, h2, hP⟩ := hO.2 (by omega)
  exact ⟨g, c, rfl, h1, h2, fun j u hu => hP.at_ hp hx hu, fun o => hP.frozen o⟩

end Go.Proofs.Ytmjdgplkcocgmaa
