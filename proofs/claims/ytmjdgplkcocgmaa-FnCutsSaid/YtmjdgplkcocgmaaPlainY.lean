/-
  Plain functions for layouts: what a layout is, said in two ways; no program in sight.
-/
import Derived.Test.YtmjdgplkcocgmaaPlainQ
set_option linter.unusedVariables false
namespace Go.Proofs.Ytmjdgplkcocgmaa

def patchIn (w h : Int) (p : Patch) : Bool := within p.X 0 (w - 1) && within p.Y 0 (h - 1) && within p.W 1 (w - p.X) && within p.H 1 (h - p.Y) && within p.Color 0 5
def hasX (p : Patch) (x : Int) : Bool := decide (p.X ≤ x) && decide (x < p.X + p.W)
def hasY (p : Patch) (y : Int) : Bool := decide (p.Y ≤ y) && decide (y < p.Y + p.H)
def has (p : Patch) (x y : Int) : Bool := hasX p x && hasY p y
def covers (ps : List Patch) (x y : Int) : Nat := ps.countP fun p => has p x y
def overlap (p q : Patch) : Bool := decide (p.X < q.X + q.W) && decide (q.X < p.X + p.W) && decide (p.Y < q.Y + q.H) && decide (q.Y < p.Y + p.H)
def areaOf (ps : List Patch) : Int := (ps.map fun p => p.W * p.H).sum
def dimsOk (w h : Int) (n : Nat) : Bool := within w 1 12 && within h 1 12 && within (n : Int) 1 12
/-- no two patches lie over each other -/
def apart (ps : List Patch) : Prop := ∀ (i k : Nat) (p q : Patch), ps[i]? = some p → ps[k]? = some q → k < i → overlap p q = false
def apartB : List Patch → Bool
  | [] => true
  | p :: ps => ps.all (fun q => !overlap q p) && apartB ps
theorem apartB_iff : ∀ {ps : List Patch}, apartB ps = true ↔ apart ps := by
  intro ps
  induction ps with
  | nil => exact ⟨fun _ i k p q hp => by simp at hp, fun _ => rfl⟩
  | cons z zs ih =>
    unfold apartB
    rw [Bool.and_eq_true, List.all_eq_true, ih]
    constructor
    · rintro ⟨h1, h2⟩ i k p q hp hq hk
      cases i with
      | zero => omega
      | succ i =>
        have hp : zs[i]? = some p := by simpa using hp
        cases k with
        | zero =>
          simp at hq
          subst hq
          have := h1 p (List.mem_of_getElem? hp)
          simpa using this
        | succ k => exact h2 i k p q hp (by simpa using hq) (by omega)
    · intro h
      refine ⟨fun q hq => ?_, fun i k p q hp hq hk => h (i + 1) (k + 1) p q (by simpa using hp) (by simpa using hq) (by omega)⟩
      obtain ⟨i, hi⟩ := List.getElem?_of_mem hq
      have := h (i + 1) 0 q z (by simpa using hi) rfl (by omega)
      rw [this]; rfl
instance (ps : List Patch) : Decidable (apart ps) := decidable_of_iff (apartB ps = true) apartB_iff
def layoutOk (w h : Int) (ps : List Patch) : Bool := dimsOk w h ps.length && ps.all (patchIn w h) && decide (apart ps) && decide (areaOf ps = w * h)

theorem patchIn_bd {w h : Int} {p : Patch} (k : patchIn w h p = true) : 0 ≤ p.X ∧ 0 ≤ p.Y ∧ 1 ≤ p.W ∧ 1 ≤ p.H ∧ p.X + p.W ≤ w ∧ p.Y + p.H ≤ h ∧ 0 ≤ p.Color ∧ p.Color ≤ 5 := by
  unfold patchIn at k
  simp only [Bool.and_eq_true, within_iff] at k
  omega
theorem hasX_iff {p : Patch} {x : Int} : hasX p x = true ↔ p.X ≤ x ∧ x < p.X + p.W := by simp [hasX]
theorem hasY_iff {p : Patch} {y : Int} : hasY p y = true ↔ p.Y ≤ y ∧ y < p.Y + p.H := by simp [hasY]
theorem has_iff {p : Patch} {x y : Int} : has p x y = true ↔ (p.X ≤ x ∧ x < p.X + p.W) ∧ p.Y ≤ y ∧ y < p.Y + p.H := by
  unfold has
  rw [Bool.and_eq_true, hasX_iff, hasY_iff]
theorem overlap_iff {p q : Patch} : overlap p q = true ↔ p.X < q.X + q.W ∧ q.X < p.X + p.W ∧ p.Y < q.Y + q.H ∧ q.Y < p.Y + p.H := by
  simp only [overlap, Bool.and_eq_true, decide_eq_true_iff]
  omega

/-! ### squares, counted in two ways -/
/-- the numbers of 0 .. N-1 from a to a + d -/
theorem cnt_range (a d : Int) (ha : 0 ≤ a) (hd : 0 ≤ d) : ∀ N : Nat, cnt (fun x => decide (a ≤ (x : Int)) && decide ((x : Int) < a + d)) N = (min (N : Int) (a + d) - min (N : Int) a).toNat := by
  intro N
  induction N with
  | zero => simp [cnt]; omega
  | succ N ih =>
    unfold cnt
    rw [ih]
    by_cases h1 : a ≤ (N : Int) <;> by_cases h2 : (N : Int) < a + d
    · rw [decide_eq_true h1, decide_eq_true h2]; simp; omega
    · rw [decide_eq_true h1, decide_eq_false h2]; simp; omega
    · rw [decide_eq_false h1]; simp; omega
    · rw [decide_eq_false h1]; simp; omega
theorem row_area {w h : Int} {p : Patch} (k : patchIn w h p = true) (y : Nat) : cnt (fun x => has p x y) w.toNat = if hasY p y then p.W.toNat else 0 := by
  have hb := patchIn_bd k
  cases hy : hasY p y
  · rw [cnt_none' fun i _ => by unfold has; rw [hy, Bool.and_false]]; rfl
  · rw [cnt_congr (q := fun x => decide (p.X ≤ (x : Int)) && decide ((x : Int) < p.X + p.W)) _ fun i _ => by unfold has; rw [hy, Bool.and_true]; rfl]
    rw [cnt_range _ _ (by omega) (by omega), if_pos rfl]
    omega
where
  cnt_none' {p : Nat → Bool} {n : Nat} (h : ∀ i, i < n → p i = false) : cnt p n = 0 := (cnt_zero_iff p n).2 h
def squares (w h : Int) (ps : List Patch) : Nat := sumN (fun y => sumN (fun x => covers ps x y) w.toNat) h.toNat
theorem sum_if (q : Nat → Bool) (m N : Nat) : sumN (fun y => if q y then m else 0) N = cnt q N * m := by
  induction N with
  | zero => simp [sumN, cnt]
  | succ N ih =>
    unfold sumN cnt
    rw [ih, Nat.add_mul]
    split <;> simp
theorem one_area {w h : Int} {p : Patch} (k : patchIn w h p = true) : sumN (fun y => cnt (fun x => has p x y) w.toNat) h.toNat = p.W.toNat * p.H.toNat := by
  have hb := patchIn_bd k
  rw [sumN_congr _ fun y _ => row_area k y, sum_if]
  rw [show cnt (fun y => hasY p y) h.toNat = cnt (fun x => decide (p.Y ≤ (x : Int)) && decide ((x : Int) < p.Y + p.H)) h.toNat from rfl]
  rw [cnt_range _ _ (by omega) (by omega), Nat.mul_comm]
  congr 1
  omega
theorem squares_area {w h : Int} {ps : List Patch} (k : ps.all (patchIn w h) = true) : (squares w h ps : Int) = areaOf ps := by
  induction ps with
  | nil =>
    have h0 : squares w h [] = 0 := (sumN_zero_iff _).2 fun y _ => (sumN_zero_iff _).2 fun x _ => rfl
    rw [h0]
    rfl
  | cons p ps ih =>
    rw [List.all_cons, Bool.and_eq_true] at k
    have h1 : squares w h (p :: ps) = squares w h ps + sumN (fun y => cnt (fun x => has p x y) w.toNat) h.toNat := by
      unfold squares
      rw [← sumN_add]
      refine sumN_congr _ fun y _ => ?_
      rw [cnt_sum, ← sumN_add]
      refine sumN_congr _ fun x _ => ?_
      unfold covers
      rw [List.countP_cons]
    have hb := patchIn_bd k.1
    rw [h1, one_area k.1, Int.natCast_add, ih k.2, Int.natCast_mul, Int.toNat_of_nonneg (by omega), Int.toNat_of_nonneg (by omega)]
    unfold areaOf
    simp
    omega
theorem apart_cons {p : Patch} {ps : List Patch} (h : apart (p :: ps)) : apart ps ∧ ∀ q ∈ ps, overlap q p = false := by
  constructor
  · intro i k a b ha hb hk
    exact h (i + 1) (k + 1) a b (by simpa using ha) (by simpa using hb) (by omega)
  · intro q hq
    obtain ⟨i, hi⟩ := List.getElem?_of_mem hq
    exact h (i + 1) 0 q p (by simpa using hi) rfl (by omega)
theorem covers_le {ps : List Patch} (h : apart ps) (x y : Int) : covers ps x y ≤ 1 := by
  induction ps with
  | nil => unfold covers; simp
  | cons p ps ih =>
    obtain ⟨h1, h2⟩ := apart_cons h
    unfold covers
    rw [List.countP_cons]
    have h3 := ih h1
    unfold covers at h3
    cases hp : has p x y
    · simpa using h3
    · have : ps.countP (fun p => has p x y) = 0 := by
        rw [List.countP_eq_zero]
        intro q hq hqh
        have h4 := h2 q hq
        have h5 : overlap q p = true := by
          rw [overlap_iff]
          have := has_iff.1 hp
          have := has_iff.1 hqh
          omega
        rw [h5] at h4
        cases h4
      rw [this]
      simp
theorem covers_two {ps : List Patch} {i k : Nat} {p q : Patch} {x y : Int} (hp : ps[i]? = some p) (hq : ps[k]? = some q) (hne : k < i) (h1 : has p x y = true) (h2 : has q x y = true) : 2 ≤ covers ps x y := by
  unfold covers
  have h3 : ps.countP (fun p => has p x y) = (ps.take i).countP (fun p => has p x y) + (ps.drop i).countP (fun p => has p x y) := by
    conv => lhs; rw [← List.take_append_drop i ps]
    rw [List.countP_append]
  rw [h3]
  have h4 : 0 < (ps.take i).countP (fun p => has p x y) := List.countP_pos_iff.2 ⟨q, List.mem_of_getElem? (i := k) (by rw [List.getElem?_take, if_pos hne]; exact hq), h2⟩
  have h5 : 0 < (ps.drop i).countP (fun p => has p x y) := List.countP_pos_iff.2 ⟨p, List.mem_of_getElem? (i := 0) (by rw [List.getElem?_drop]; exact hp), h1⟩
  omega
theorem sum_ones {f : Nat → Nat} {n : Nat} (h : ∀ i, i < n → f i ≤ 1) (hs : sumN f n = n) : ∀ i, i < n → f i = 1 := by
  induction n with
  | zero => intro i hi; omega
  | succ n ih =>
    unfold sumN at hs
    have h1 := sumN_le (g := fun _ => 1) n fun i hi => h i (by omega)
    rw [sumN_const] at h1
    have h2 := h n (by omega)
    intro i hi
    by_cases e : i = n
    · subst e; omega
    · exact ih (fun i hi => h i (by omega)) (by omega) i (by omega)
theorem sum_full {f : Nat → Nat} {n m : Nat} (h : ∀ i, i < n → f i ≤ m) (hs : sumN f n = n * m) : ∀ i, i < n → f i = m := by
  induction n with
  | zero => intro i hi; omega
  | succ n ih =>
    unfold sumN at hs
    have h1 := sumN_le (g := fun _ => m) n fun i hi => h i (by omega)
    rw [sumN_const] at h1
    have h2 := h n (by omega)
    rw [Nat.add_mul] at hs
    intro i hi
    by_cases e : i = n
    · subst e; omega
    · exact ih (fun i hi => h i (by omega)) (by omega) i (by omega)
/-- each square once -/
def onceAll (w h : Int) (ps : List Patch) : Prop := ∀ x y : Nat, x < w.toNat → y < h.toNat → covers ps x y = 1
theorem once_iff {w h : Int} {ps : List Patch} (hw : 0 ≤ w) (hh : 0 ≤ h) (k : ps.all (patchIn w h) = true) : onceAll w h ps ↔ apart ps ∧ areaOf ps = w * h := by
  have hsq := squares_area k
  have hprod : ((h.toNat * w.toNat : Nat) : Int) = w * h := by
    rw [Int.natCast_mul, Int.toNat_of_nonneg hw, Int.toNat_of_nonneg hh, Int.mul_comm]
  constructor
  · intro h1
    refine ⟨fun i j p q hp hq hij => ?_, ?_⟩
    · cases ho : overlap p q
      · rfl
      · exfalso
        have hpb := patchIn_bd (List.all_eq_true.1 k p (List.mem_of_getElem? hp))
        have hqb := patchIn_bd (List.all_eq_true.1 k q (List.mem_of_getElem? hq))
        have ho := overlap_iff.1 ho
        have h2 := covers_two (x := max p.X q.X) (y := max p.Y q.Y) hp hq hij (has_iff.2 (by omega)) (has_iff.2 (by omega))
        have h3 := h1 (max p.X q.X).toNat (max p.Y q.Y).toNat (by omega) (by omega)
        rw [Int.toNat_of_nonneg (by omega), Int.toNat_of_nonneg (by omega)] at h3
        omega
    · rw [← hsq, ← hprod]
      unfold squares
      rw [sumN_congr (g := fun _ => w.toNat) _ fun y hy => by
        rw [sumN_congr (g := fun _ => 1) _ fun x hx => h1 x y hx hy, sumN_const, Nat.mul_one]]
      rw [sumN_const]
  · rintro ⟨h1, h2⟩ x y hx hy
    have h3 : sumN (fun y => sumN (fun x => covers ps x y) w.toNat) h.toNat = h.toNat * w.toNat := by
      have : squares w h ps = h.toNat * w.toNat := by omega
      exact this
    have h4 := sum_full (m := w.toNat) (fun y hy => by
      have := sumN_le (f := fun x : Nat => covers ps x y) (g := fun _ => 1) w.toNat fun x _ => covers_le h1 x y
      rwa [sumN_const, Nat.mul_one] at this) h3 y hy
    exact sum_ones (fun x hx => covers_le h1 x y) h4 x hx

theorem layout_parts {w h : Int} {ps : List Patch} (k : layoutOk w h ps = true) : (1 ≤ w ∧ w ≤ 12) ∧ (1 ≤ h ∧ h ≤ 12) ∧ (1 ≤ ps.length ∧ ps.length ≤ 12) ∧ ps.all (patchIn w h) = true ∧ apart ps ∧ areaOf ps = w * h := by
  unfold layoutOk dimsOk at k
  simp only [Bool.and_eq_true, within_iff, decide_eq_true_iff] at k
  exact ⟨k.1.1.1.1.1, k.1.1.1.1.2, by omega, k.1.1.2, k.1.2, k.2⟩
theorem layout_once {w h : Int} {ps : List Patch} (k : layoutOk w h ps = true) : onceAll w h ps := by
  obtain ⟨h1, h2, h3, h4, h5, h6⟩ := layout_parts k
  exact (once_iff (by omega) (by omega) h4).2 ⟨h5, h6⟩
theorem layout_of {w h : Int} {ps : List Patch} (h1 : dimsOk w h ps.length = true) (h2 : ps.all (patchIn w h) = true) (h3 : apart ps) (h4 : areaOf ps = w * h) : layoutOk w h ps = true := by
  unfold layoutOk
  rw [h1, h2, decide_eq_true h3, decide_eq_true h4]; rfl
theorem dims_bd {w h : Int} {n : Nat} (k : dimsOk w h n = true) : (1 ≤ w ∧ w ≤ 12) ∧ (1 ≤ h ∧ h ≤ 12) ∧ 1 ≤ n ∧ n ≤ 12 := by
  unfold dimsOk at k
  simp only [Bool.and_eq_true, within_iff] at k
  omega
theorem layout_dims {w h : Int} {ps : List Patch} (k : dimsOk w h ps.length = false) : false = layoutOk w h ps := by
  unfold layoutOk
  rw [k]; rfl
theorem layout_patch {w h : Int} {ps : List Patch} {i : Nat} {p : Patch} (hp : ps[i]? = some p) (k : patchIn w h p = false) : false = layoutOk w h ps := by
  unfold layoutOk
  rw [all_no hp k, Bool.and_false]; rfl
theorem layout_over {w h : Int} {ps : List Patch} {i j : Nat} {p q : Patch} (hp : ps[i]? = some p) (hq : ps[j]? = some q) (hj : j < i) (ho : overlap p q = true) : false = layoutOk w h ps := by
  unfold layoutOk
  rw [decide_eq_false (p := apart ps)]
  · simp
  · intro ha
    have := ha i j p q hp hq hj
    rw [ho] at this
    cases this
theorem layout_area {w h : Int} {ps : List Patch} (h1 : dimsOk w h ps.length = true) (h2 : ps.all (patchIn w h) = true) (h3 : apart ps) : decide (areaOf ps = w * h) = layoutOk w h ps := by
  unfold layoutOk
  rw [h1, h2, decide_eq_true h3]; simp
theorem layout_cover {w h : Int} {ps : List Patch} (h1 : dimsOk w h ps.length = true) (h2 : ps.all (patchIn w h) = true) {x y : Nat} (hx : x < w.toNat) (hy : y < h.toNat) (hc : covers ps x y ≠ 1) : false = layoutOk w h ps := by
  cases hk : layoutOk w h ps
  · rfl
  · exact absurd (layout_once hk x y hx hy) hc
theorem layout_all {w h : Int} {ps : List Patch} (h1 : dimsOk w h ps.length = true) (h2 : ps.all (patchIn w h) = true) (hc : onceAll w h ps) : true = layoutOk w h ps := by
  have := dims_bd h1
  obtain ⟨h3, h4⟩ := (once_iff (by omega) (by omega) h2).1 hc
  exact (layout_of h1 h2 h3 h4).symm

end Go.Proofs.Ytmjdgplkcocgmaa
