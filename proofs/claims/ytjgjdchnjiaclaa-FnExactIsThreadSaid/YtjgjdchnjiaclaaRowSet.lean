/-
  One cell of one row is written.
-/
import Derived.Test.YtjgjdchnjiaclaaAccSS
set_option linter.unusedVariables false
namespace Go.Proofs.Ytjgjdchnjiaclaa
open Go.RowKit

theorem Part.bool_set {w : World} {g : Nat} {T : TypeId} {n : Nat} {d : List Bool} (h : Part w g T n 1 d boolC n) {p : Nat} (z : Bool) : Part (w.setCell ⟨g, p, none⟩ (.bool z)) g T n 1 (d.set p z) boolC n := by
  obtain ⟨c, hc, hz, hx⟩ := h
  refine ⟨c.setIfInBounds p (.bool z), by simp [World.setCell, Array.getElem?_modify, hc], by simpa using hz, fun i x j u hi h1 h2 => ?_⟩
  have hj : j = 0 := by
    have := (List.getElem?_eq_some_iff.1 h2).1
    simp [boolC] at this
    exact this
  subst hj
  rw [List.getElem?_set] at h1
  rw [Array.getElem?_setIfInBounds]
  by_cases e : p = i
  · subst e
    rw [if_pos rfl] at h1
    rw [if_pos (by omega), if_pos (by omega)]
    split at h1
    · injection h1 with h1
      subst h1
      simpa [boolC] using h2
    · cases h1
  · rw [if_neg e] at h1
    rw [if_neg (by omega)]
    exact hx i x 0 u hi h1 h2

theorem RowsP.store1 {w : World} {lo hi : Nat} {hs : List Hd} {rows : List (List Bool)} (h : RowsP w lo hi hs rows boolC) {k : Nat} {x : Hd} (hx : hs[k]? = some x) {r : List Bool} (hr : rows[k]? = some r) {j : Nat} (hj : j < x.n) :
    ∃ g, x.A = some ⟨g, 0, none⟩ ∧ g < w.heap.size ∧ lo ≤ g ∧ g < hi ∧ (∃ u, w.cell? ⟨g, j, none⟩ = some u) ∧ w.frozen? ⟨g, j, none⟩ = false ∧
      ∀ b : Bool, RowsP (w.setCell ⟨g, j, none⟩ (.bool b)) lo hi hs (rows.set k (r.set j b)) boolC ∧ Only g (g + 1) w (w.setCell ⟨g, j, none⟩ (.bool b)) := by
  obtain ⟨l, u, hO, hloc, hz⟩ := (h.2.1 k x r hx hr).2.exact
  obtain ⟨g, T, e, h1, h2, hp⟩ := hO.2 (by omega)
  obtain ⟨e1, e2, h3, h4⟩ := hloc _ e (by omega)
  have e1 : l = g := e1
  have e2 : u = g + 1 := e2
  subst e1
  subst e2
  refine ⟨l, e, hp.lt, h3, h4, hp.cell (by omega), hp.frozen _, fun b => ?_⟩
  have ho : Only l (l + 1) w (w.setCell ⟨l, j, none⟩ (.bool b)) := ⟨rfl, rfl, rfl, by simp [World.setCell], fun i hi hd => Below.heap_setCell w ⟨l, j, none⟩ _ i (by show i ≠ l; omega)⟩
  exact ⟨h.set hx ho hloc (fun h0 => by omega) ⟨by rw [List.length_set]; exact hO.1, fun _ => ⟨l, T, e, h1, h2, hp.bool_set b⟩⟩, ho⟩

end Go.Proofs.Ytjgjdchnjiaclaa
