/-
  Plain functions for the scalar laws; no program in sight.
-/
set_option linter.unusedVariables false
namespace Go.Proofs.Ytmjdgplkcocgmaa

def within (n a b : Int) : Bool := decide (a ≤ n) && decide (n ≤ b)
theorem within_iff {n a b : Int} : within n a b = true ↔ a ≤ n ∧ n ≤ b := by simp [within]
theorem within_no {n a b : Int} : within n a b = false ↔ n < a ∨ b < n := by
  unfold within
  rw [Bool.and_eq_false_iff]
  simp

/-- what the law file's count of sizes leaves -/
def szLeft (l : Int) (n : Nat) : Int := if l - (n : Int) < 0 then -1 else l - (n : Int)

theorem szLeft_cases (l : Int) (n : Nat) : (l < (n : Int) ∧ szLeft l n = -1) ∨ ((n : Int) ≤ l ∧ szLeft l n = l - (n : Int)) := by
  unfold szLeft
  by_cases h : l - (n : Int) < 0
  · rw [if_pos h]; exact .inl ⟨by omega, rfl⟩
  · rw [if_neg h]; exact .inr ⟨by omega, rfl⟩

def cutSize (f : Int) : Int := if within f 1 1000 = true then f + 4 else -1
def finishedSize (c : Int) : Int := if within c 5 1004 = true then c - 4 else -1
def triangleSide (f : Int) : Int := if within f 1 1000 = true then f + 7 else -1
def driftOf (p o : Int) : Int := if within p 1 100 = true ∧ within o (-4) 4 = true then 2 * o * (p - 1) else 0
def borderOk (u w : Int) : Bool := within u 1 200 && within w 1 200
def areSides (w h : Int) : Bool := within w 1 4000 && within h 1 4000
def fitsBorder (u d w h : Int) : Bool := borderOk u d && areSides w h && (w % u == 0) && (h % u == 0)
def unitsAround (u d w h : Int) : Int := if fitsBorder u d w h = true then 2 * (w / u + h / u) else -1
def outer1 (u d w h : Int) : Int := if borderOk u d = true ∧ areSides w h = true then w + 2 * d else 0
def outer2 (u d w h : Int) : Int := if borderOk u d = true ∧ areSides w h = true then h + 2 * d else 0
def spacer1 (u d w h : Int) : Int := if borderOk u d = true ∧ areSides w h = true then (w + u - 1) / u * u - w else 0
def spacer2 (u d w h : Int) : Int := if borderOk u d = true ∧ areSides w h = true then (h + u - 1) / u * u - h else 0
def mayTurn (k q : Int) : Bool := within k 0 2 && within q (-100) 100 && (k == 0 || k == 1 && q % 2 == 0 || k == 2 && q % 4 == 0)
def spacer (u w : Int) : Int := (w + u - 1) / u * u - w

theorem spacer_eq {u w : Int} (hu : 1 ≤ u) (hw : 1 ≤ w) : (u - w % u) % u = spacer u w := by
  unfold spacer
  have h0 := Int.emod_nonneg w (show u ≠ 0 by omega)
  have h1 := Int.emod_lt_of_pos w (show 0 < u by omega)
  have h2 := Int.mul_ediv_add_emod w u
  generalize w % u = r at *
  generalize w / u = q at *
  by_cases hr : r = 0
  · subst hr
    have e1 : (u - 0) % u = 0 := by rw [Int.sub_zero]; exact Int.emod_self
    have e2 : (w + u - 1) / u = q := by
      rw [show w + u - 1 = (u - 1) + u * q from by omega, Int.add_mul_ediv_left _ _ (by omega), Int.ediv_eq_zero_of_lt (by omega) (by omega)]
      omega
    rw [e1, e2, Int.mul_comm q u]
    omega
  · have e1 : (u - r) % u = u - r := Int.emod_eq_of_lt (by omega) (by omega)
    have e2 : (w + u - 1) / u = q + 1 := by
      rw [show w + u - 1 = (r - 1) + u * (q + 1) from by rw [Int.mul_add, Int.mul_one]; omega, Int.add_mul_ediv_left _ _ (by omega), Int.ediv_eq_zero_of_lt (by omega) (by omega)]
      omega
    rw [e1, e2, Int.add_mul, Int.one_mul, Int.mul_comm q u]
    omega

theorem spacer_bd {u w : Int} (hu : 1 ≤ u) (hw : 1 ≤ w) : 0 ≤ spacer u w ∧ spacer u w < u := by
  rw [← spacer_eq hu hw]
  exact ⟨Int.emod_nonneg _ (by omega), Int.emod_lt_of_pos _ (by omega)⟩

theorem up_mul_bd {u w : Int} (hu : 1 ≤ u) (hw : 1 ≤ w) : w ≤ (w + u - 1) / u * u ∧ (w + u - 1) / u * u < w + u := by
  have h := spacer_bd hu hw
  unfold spacer at h
  omega

theorem drift_bd {p o : Int} (h1 : 1 ≤ p) (h2 : p ≤ 100) (h3 : -4 ≤ o) (h4 : o ≤ 4) : -1000 ≤ 2 * o * (p - 1) ∧ 2 * o * (p - 1) ≤ 1000 := by
  have : o = -4 ∨ o = -3 ∨ o = -2 ∨ o = -1 ∨ o = 0 ∨ o = 1 ∨ o = 2 ∨ o = 3 ∨ o = 4 := by omega
  rcases this with rfl | rfl | rfl | rfl | rfl | rfl | rfl | rfl | rfl <;> omega
theorem borderOk_bd {u d : Int} (h : borderOk u d = true) : (1 ≤ u ∧ u ≤ 200) ∧ 1 ≤ d ∧ d ≤ 200 := by
  unfold borderOk at h
  rw [Bool.and_eq_true] at h
  exact ⟨within_iff.1 h.1, within_iff.1 h.2⟩
theorem areSides_bd {u d : Int} (h : areSides u d = true) : (1 ≤ u ∧ u ≤ 4000) ∧ 1 ≤ d ∧ d ≤ 4000 := by
  unfold areSides at h
  rw [Bool.and_eq_true] at h
  exact ⟨within_iff.1 h.1, within_iff.1 h.2⟩
theorem div_bd {a u : Int} (h1 : 1 ≤ a) (h2 : 1 ≤ u) : 0 ≤ a / u ∧ a / u ≤ a := ⟨Int.ediv_nonneg (by omega) (by omega), Int.ediv_le_self _ (by omega)⟩
theorem fits_bd {u d a b : Int} (h : fitsBorder u d a b = true) : 1 ≤ u ∧ u ≤ 200 ∧ 1 ≤ a ∧ a ≤ 4000 ∧ 1 ≤ b ∧ b ≤ 4000 ∧ 0 ≤ a / u ∧ a / u ≤ a ∧ 0 ≤ b / u ∧ b / u ≤ b := by
  unfold fitsBorder at h
  simp only [Bool.and_eq_true] at h
  have h1 := borderOk_bd h.1.1.1
  have h2 := areSides_bd h.1.1.2
  have h3 := div_bd h2.1.1 h1.1.1
  have h4 := div_bd h2.2.1 h1.1.1
  omega

/-- the greatest unit from least to top that divides both; -1 if none: k more to try -/
def bestFrom (w h least : Int) : Nat → Int → Int
  | 0, _ => -1
  | k + 1, u => if u < least then -1 else if (w % u == 0 && h % u == 0) = true then u else bestFrom w h least k (u - 1)
def bestUnit (w h least most : Int) : Int :=
  if areSides w h = true ∧ within least 1 200 = true ∧ within most 1 200 = true then bestFrom w h least (most.toNat + 1) most else -1

theorem best_hit {w h lo x R : Int} (hlo : lo ≤ x) (hd : (w % x == 0) = true) (hd2 : (h % x == 0) = true) (hR : bestFrom w h lo (x.toNat + 1) x = R) : x = R := by
  rw [← hR, bestFrom, if_neg (by omega), if_pos (by rw [hd, hd2]; rfl)]
theorem best_next {w h lo x R : Int} (hl : 1 ≤ lo) (hlo : lo ≤ x) (hd : ¬ (w % x == 0 && h % x == 0) = true) (hR : bestFrom w h lo (x.toNat + 1) x = R) : bestFrom w h lo ((x - 1).toNat + 1) (x - 1) = R := by
  rw [show (x - 1).toNat + 1 = x.toNat from by omega, ← hR]
  conv => rhs; unfold bestFrom
  rw [if_neg (by omega), if_neg hd]
theorem best_end {w h lo x R : Int} (hlo : ¬ lo ≤ x) (hR : bestFrom w h lo (x.toNat + 1) x = R) : -1 = R := by
  rw [← hR, bestFrom, if_pos (by omega)]
theorem tmod_zero (q m : Int) : (q.tmod m = 0) = (q % m = 0) := by
  rw [← Int.dvd_iff_emod_eq_zero, ← Int.dvd_iff_tmod_eq_zero]
theorem tmod_beq (q m : Int) : (q.tmod m == 0) = (q % m == 0) := by
  have h := tmod_zero q m
  rw [Bool.eq_iff_iff, beq_iff_eq, beq_iff_eq, h]
theorem mod_bd {w u : Int} (hu : 1 ≤ u) : 0 ≤ w % u ∧ w % u < u := ⟨Int.emod_nonneg _ (by omega), Int.emod_lt_of_pos _ (by omega)⟩
theorem up_bd {u w : Int} (hu : 1 ≤ u) (hw : 1 ≤ w) : 0 ≤ (w + u - 1) / u ∧ (w + u - 1) / u ≤ w + u - 1 := div_bd (by omega) hu

end Go.Proofs.Ytmjdgplkcocgmaa
