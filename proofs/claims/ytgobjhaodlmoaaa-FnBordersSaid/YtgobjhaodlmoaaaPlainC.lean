/-
  Plain law: with spacers every border fits.
-/
import Derived.Test.YtgobjhaodlmoaaaPlainB
set_option linter.unusedVariables false
namespace Go.Proofs.Ytgobjhaodlmoaaa

theorem spacer_zero {u w : Int} (hu : 1 ≤ u) (hw : 1 ≤ w) : (spacer u w = 0 ↔ w % u = 0) := by
  rw [← spacer_eq hu hw]
  have h0 := Int.emod_nonneg w (show u ≠ 0 by omega)
  have h1 := Int.emod_lt_of_pos w (show 0 < u by omega)
  constructor
  · intro h
    by_cases hr : w % u = 0
    · exact hr
    · rw [Int.emod_eq_of_lt (by omega) (by omega)] at h; omega
  · intro h
    rw [h, Int.sub_zero, Int.emod_self]
theorem spacer_mod {u w : Int} (hu : 1 ≤ u) : (w + spacer u w) % u = 0 := by
  unfold spacer
  rw [show w + ((w + u - 1) / u * u - w) = (w + u - 1) / u * u by omega]
  exact Int.mul_emod_left _ _

structure SpacerFacts (u d w h x y : Int) : Prop where
  x0 : 0 ≤ x
  x1 : x < u
  y0 : 0 ≤ y
  y1 : y < u
  fits : fitsBorder u d (w + x) (h + y) = true
  zero : fitsBorder u d w h = (x == 0 && y == 0)
  units : unitsAround u d (w + x) (h + y) * u = 2 * (w + x + h + y)
  meet1 : colorsMeet u d (w + x) (h + y) 1 = true
  meet2 : colorsMeet u d (w + x) (h + y) 2 = true

theorem spacer_facts {u d w h : Int} (hb : borderOk u d = true) (hw : 1 ≤ w) (hw2 : w ≤ 300) (hh : 1 ≤ h) (hh2 : h ≤ 300) : SpacerFacts u d w h (spacer1 u d w h) (spacer2 u d w h) := by
  have hu := borderOk_bd hb
  have hs : areSides w h = true := by unfold areSides; rw [Bool.and_eq_true, within_iff, within_iff]; omega
  have e1 : spacer1 u d w h = spacer u w := by unfold spacer1 spacer; rw [if_pos ⟨hb, hs⟩]
  have e2 : spacer2 u d w h = spacer u h := by unfold spacer2 spacer; rw [if_pos ⟨hb, hs⟩]
  rw [e1, e2]
  have b1 := spacer_bd hu.1.1 hw
  have b2 := spacer_bd hu.1.1 hh
  have m1 := spacer_mod (w := w) hu.1.1
  have m2 := spacer_mod (w := h) hu.1.1
  have z1 := spacer_zero hu.1.1 hw
  have z2 := spacer_zero hu.1.1 hh
  have hs2 : areSides (w + spacer u w) (h + spacer u h) = true := by unfold areSides; rw [Bool.and_eq_true, within_iff, within_iff]; omega
  have hfit : fitsBorder u d (w + spacer u w) (h + spacer u h) = true := by unfold fitsBorder; rw [hb, hs2, m1, m2]; rfl
  have hun : unitsAround u d (w + spacer u w) (h + spacer u h) * u = 2 * (w + spacer u w + h + spacer u h) := by
    unfold unitsAround
    rw [if_pos hfit, Int.mul_assoc, Int.add_mul, Int.ediv_mul_cancel (Int.dvd_of_emod_eq_zero m1), Int.ediv_mul_cancel (Int.dvd_of_emod_eq_zero m2)]
    omega
  refine ⟨b1.1, b1.2, b2.1, b2.2, hfit, ?_, hun, ?_, ?_⟩
  · unfold fitsBorder
    rw [hb, hs, Bool.true_and, Bool.true_and, Bool.eq_iff_iff]
    simp [z1, z2]
  · unfold colorsMeet
    rw [hfit, Int.emod_one]
    rfl
  · unfold colorsMeet
    rw [hfit]
    have : (unitsAround u d (w + spacer u w) (h + spacer u h) + 4) % 2 = 0 := by
      unfold unitsAround
      rw [if_pos hfit]
      omega
    rw [this]
    rfl

def both (w h k : Int) : Bool := w % k == 0 && h % k == 0
theorem best_spec (w h lo : Int) (hlo : 1 ≤ lo) : ∀ (n : Nat) (u : Int), u.toNat + 1 ≤ n →
    (bestFrom w h lo n u = -1 ∧ ∀ k, lo ≤ k → k ≤ u → both w h k = false) ∨ (lo ≤ bestFrom w h lo n u ∧ bestFrom w h lo n u ≤ u ∧ both w h (bestFrom w h lo n u) = true ∧ ∀ k, bestFrom w h lo n u < k → k ≤ u → both w h k = false) := by
  intro n
  induction n with
  | zero => intro u h; omega
  | succ n ih =>
    intro u hu
    unfold bestFrom
    by_cases h1 : u < lo
    · rw [if_pos h1]
      exact .inl ⟨rfl, fun k h2 h3 => by omega⟩
    · rw [if_neg h1]
      by_cases h2 : (w % u == 0 && h % u == 0) = true
      · rw [if_pos h2]
        exact .inr ⟨by omega, Int.le_refl _, h2, fun k h3 h4 => by omega⟩
      · rw [if_neg h2]
        have hf : both w h u = false := by unfold both; simpa using h2
        rcases ih (u - 1) (by omega) with ⟨e, h3⟩ | ⟨e1, e2, e3, e4⟩
        · refine .inl ⟨e, fun k h4 h5 => ?_⟩
          by_cases hk : k = u
          · rw [hk]; exact hf
          · exact h3 k h4 (by omega)
        · refine .inr ⟨e1, by omega, e3, fun k h4 h5 => ?_⟩
          by_cases hk : k = u
          · rw [hk]; exact hf
          · exact e4 k h4 (by omega)

theorem best_eq {w h lo hi : Int} (hs : areSides w h = true) (h1 : 1 ≤ lo) (h2 : lo ≤ 200) (h3 : 1 ≤ hi) (h4 : hi ≤ 200) : bestUnit w h lo hi = bestFrom w h lo (hi.toNat + 1) hi := by
  unfold bestUnit
  rw [if_pos ⟨hs, within_iff.2 ⟨h1, h2⟩, within_iff.2 ⟨h3, h4⟩⟩]

theorem best_one {w h : Int} (hs : areSides w h = true) : 1 ≤ bestUnit w h 1 200 ∧ bestUnit w h 1 200 ≤ 200 ∧ both w h (bestUnit w h 1 200) = true ∧ ∀ k, bestUnit w h 1 200 < k → k ≤ 200 → both w h k = false := by
  rw [best_eq hs (by omega) (by omega) (by omega) (by omega)]
  rcases best_spec w h 1 (by omega) _ 200 (Nat.le_refl _) with ⟨e, h3⟩ | ⟨e1, e2, e3, e4⟩
  · have := h3 1 (by omega) (by omega)
    simp [both, Int.emod_one] at this
  · exact ⟨e1, e2, e3, e4⟩
theorem best_ge {w h u : Int} (hs : areSides w h = true) (h1 : 1 ≤ u) (h2 : u ≤ 200) (hb : both w h u = true) : u ≤ bestUnit w h u 200 := by
  rw [best_eq hs h1 h2 (by omega) (by omega)]
  rcases best_spec w h u h1 _ 200 (Nat.le_refl _) with ⟨e, h3⟩ | ⟨e1, _⟩
  · have := h3 u (by omega) h2
    rw [hb] at this
    cases this
  · exact e1
theorem best_none : bestUnit 7 5 2 200 = -1 := by decide +kernel

end Go.Proofs.Ytgobjhaodlmoaaa
