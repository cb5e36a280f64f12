/-
  Contracts over joins: the reference's rounds of sewing.
-/
import Derived.Test.YtmjdgplkcocgmaaChnA
set_option linter.unusedVariables false
namespace Go.Proofs.Ytmjdgplkcocgmaa
open Go.RowKit

theorem take_dp {n : Nat} {l : List Join} {d : List Int} (h : depths n l = some d) {k : Nat} (hk : k < l.length) : d.take (n + k) ++ [dp d n k] = d.take (n + k + 1) := by
  have hl := (depths_bd h).1
  have hx : d[n + k]? = some (d[n + k]'(by omega)) := List.getElem?_eq_getElem _
  rw [List.take_add_one, hx]
  unfold dp
  rw [List.getD_eq_getElem?_getD, hx]
  rfl
theorem maxDep_succ (d : List Int) (n k : Nat) : maxDep d n (k + 1) = max (maxDep d n k) (dp d n k).toNat := rfl
theorem take_len {n : Nat} {l : List Join} {d : List Int} (h : depths n l = some d) {k : Nat} (hk : k ≤ l.length) : (d.take (n + k)).length = n + k := by
  have hl := (depths_bd h).1
  rw [List.length_take]
  omega

theorem Acc.hd_cell {w : World} {lo g n c : Nat} {e : TypeId} {hs : List Hd} (h : Acc w lo e 1 (.slice (some ⟨g, 0, none⟩) n c) hs hdC) {p : Nat} {x : Hd} (hx : hs[p]? = some x) :
    w.cell? ⟨g, p, none⟩ = some (.slice x.A x.n x.c) ∧ ∀ o, w.frozen? ⟨g, o, none⟩ = false := by
  obtain ⟨g', c', ev, h1, h2, h3, h4⟩ := h.cells_at hdC_len hx
  injection ev with e1 e2 e3
  injection e1 with e1
  injection e1 with e1 e4 e5
  subst e1
  exact ⟨by simpa using h3 0 _ rfl, h4⟩
theorem Acc.hd_at {w : World} {lo : Nat} {e : TypeId} {v : Value} {hs : List Hd} (h : Acc w lo e 1 v hs hdC) {p : Nat} {x : Hd} (hx : hs[p]? = some x) :
    ∃ g c, v = .slice (some ⟨g, 0, none⟩) hs.length c ∧ lo ≤ g ∧ g < w.heap.size ∧ w.cell? ⟨g, p, none⟩ = some (.slice x.A x.n x.c) ∧ ∀ o, w.frozen? ⟨g, o, none⟩ = false := by
  obtain ⟨g, c, ev, h1, h2, h3, h4⟩ := h.cells_at hdC_len hx
  exact ⟨g, c, ev, h1, h2, by simpa using h3 0 _ rfl, h4⟩

end Go.Proofs.Ytmjdgplkcocgmaa
