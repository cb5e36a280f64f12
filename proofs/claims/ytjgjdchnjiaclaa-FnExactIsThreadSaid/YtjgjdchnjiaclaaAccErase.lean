/-
  append(xs[:p], xs[p+1:]...): an element is taken out of a row that the call has built.
-/
import Derived.Test.YtjgjdchnjiaclaaAcc
import Derived.Test.YtjgjdchnjiaclaaAccManyG
import Derived.Deep.RegionLaw
set_option linter.unusedVariables false
namespace Go.Proofs.Ytjgjdchnjiaclaa
open Go.RowKit

theorem setCells_row (w : World) (g o : Nat) (us : List Value) : w.setCells g o us = setRow w g o us := by
  induction us generalizing w o with
  | nil => rfl
  | cons u us ih => exact ih _ _
theorem flat_erase {α : Type} {cells : α → List Value} (xs : List α) (p : Nat) : (xs.eraseIdx p).flatMap cells = (xs.take p).flatMap cells ++ (xs.drop (p + 1)).flatMap cells := by
  rw [List.eraseIdx_eq_take_drop_succ, List.flatMap_append]
theorem Acc.erase {α : Type} {w : World} {lo sz g c : Nat} {e : TypeId} {xs : List α} {cells : α → List Value} (h : Acc w lo e sz (.slice (some ⟨g, 0, none⟩) xs.length c) xs cells) (hl : ∀ y, (cells y).length = sz) {p : Nat} (hp : p < xs.length) :
    Acc (w.setCells g (p * sz) ((xs.drop (p + 1)).flatMap cells)) lo e sz (.slice (some ⟨g, 0, none⟩) (p + (xs.length - (p + 1))) c) (xs.eraseIdx p) cells ∧ w.grownBy (w.setCells g (p * sz) ((xs.drop (p + 1)).flatMap cells)) (some g) := by
  have hel : (xs.eraseIdx p).length = p + (xs.length - (p + 1)) := by rw [List.length_eraseIdx, if_pos hp]; omega
  rw [setCells_row]
  refine ⟨?_, only_setRow (World.grownBy.refl _ _) _ _⟩
  rcases h.2 with ⟨h', _⟩ | ⟨g', cap, cur, h', hb, hg, hnc, hcm, hcs, htake⟩
  · simp at h'
  · simp only [Value.slice.injEq, Option.some.injEq, Addr.mk.injEq, and_true, true_and] at h'
    obtain ⟨rfl, rfl⟩ := h'
    obtain ⟨c', k1, k2, k3, k4⟩ := heap_setRow w g (p * sz) ((xs.drop (p + 1)).flatMap cells) hg
    unfold Acc World.ownsRow
    rw [hel]
    refine ⟨by rw [flat_len hl, hel], .inr ⟨g, c, c', rfl, hb, k1, by omega, hcm, by omega, ?_⟩⟩
    have hfl := flat_len hl xs
    have hdl := flat_len hl (xs.drop (p + 1))
    have htl := flat_len hl (xs.take p)
    rw [List.length_drop] at hdl
    rw [List.length_take, Nat.min_eq_left (by omega)] at htl
    have hsz : (p + (xs.length - (p + 1))) * sz = p * sz + (xs.length - (p + 1)) * sz := Nat.add_mul _ _ _
    have hcsz : xs.length * sz ≤ cur.size := by rw [hcs]; exact Nat.mul_le_mul_right _ hnc
    have hle : p * sz + (xs.length - (p + 1)) * sz ≤ xs.length * sz := by rw [← Nat.add_mul]; exact Nat.mul_le_mul_right _ (by omega)
    have hsplit : xs.flatMap cells = (xs.take p).flatMap cells ++ (xs.drop p).flatMap cells := by rw [← List.flatMap_append, List.take_append_drop]
    rw [flat_erase]
    apply List.ext_getElem?
    intro i
    rw [List.getElem?_take]
    by_cases hi : i < (p + (xs.length - (p + 1))) * sz
    · rw [if_pos hi]
      by_cases hip : i < p * sz
      · rw [List.getElem?_append_left (by rw [htl]; exact hip)]
        have h1 : c'[i]? = cur[i]? := k3 i (.inl hip)
        have h2 : (xs.flatMap cells)[i]? = ((xs.take p).flatMap cells)[i]? := by rw [hsplit, List.getElem?_append_left (by rw [htl]; exact hip)]
        rw [← h2, ← htake, List.getElem?_take, if_pos (by omega)]
        simpa using h1
      · have hj : i - p * sz < ((xs.drop (p + 1)).flatMap cells).length := by rw [hdl]; omega
        rw [List.getElem?_append_right (by rw [htl]; omega), htl]
        have h1 := k4 (i - p * sz) _ (List.getElem?_eq_getElem hj) (by omega)
        rw [show p * sz + (i - p * sz) = i by omega] at h1
        rw [List.getElem?_eq_getElem hj]
        simpa using h1
    · rw [if_neg hi, List.getElem?_eq_none (by rw [List.length_append, htl, hdl]; omega)]
/-- The cells that are moved, where they lie. -/
theorem Acc.moved {α : Type} {w : World} {lo sz g c : Nat} {e : TypeId} {xs : List α} {cells : α → List Value} (h : Acc w lo e sz (.slice (some ⟨g, 0, none⟩) xs.length c) xs cells) (hl : ∀ y, (cells y).length = sz) {p : Nat} (hp : p < xs.length) :
    ((xs.drop (p + 1)).flatMap cells).length = (xs.length - (p + 1)) * sz ∧ (∀ j u, ((xs.drop (p + 1)).flatMap cells)[j]? = some u → w.cell? ⟨g, (p + 1) * sz + j, none⟩ = some u) ∧
      ∀ j, j < ((xs.drop (p + 1)).flatMap cells).length → (w.cell? ⟨g, p * sz + j, none⟩).isSome = true ∧ w.frozen? ⟨g, p * sz + j, none⟩ = false := by
  have hdl := flat_len hl (xs.drop (p + 1))
  rw [List.length_drop] at hdl
  obtain ⟨A, c', ev, hc', hO⟩ := h.own hl
  obtain ⟨g', T, e1, h1, h2, hP⟩ := hO.2 (by omega)
  injection ev with ev1 ev2 ev3
  rw [← ev1] at e1
  injection e1 with e1
  injection e1 with e1 _ _
  subst e1
  refine ⟨hdl, fun j u hu => ?_, fun j hj => ⟨?_, hP.frozen _⟩⟩
  · obtain ⟨i, y, k, hy, hk, rfl⟩ := flat_inv hl hu
    rw [List.getElem?_drop] at hy
    have := hP.at_ (i := p + 1 + i) (x := y) (j := k) (u := u) (by have := (List.getElem?_eq_some_iff.1 hy).1; exact this) hy hk
    rw [Nat.add_mul (p + 1) i sz] at this
    rw [← Nat.add_assoc]
    exact this
  · rw [hdl] at hj
    have hle : p * sz + (xs.length - (p + 1)) * sz ≤ xs.length * sz := by rw [← Nat.add_mul]; exact Nat.mul_le_mul_right _ (by omega)
    obtain ⟨u, hu⟩ := hP.cell (o := p * sz + j) (by omega)
    rw [hu]; rfl

end Go.Proofs.Ytjgjdchnjiaclaa
