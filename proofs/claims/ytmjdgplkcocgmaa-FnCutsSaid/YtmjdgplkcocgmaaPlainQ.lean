/-
  Plain laws of pressing: alternating rows, the fewest flips, a row that is turned; no program in sight.
-/
import Derived.Test.YtmjdgplkcocgmaaPlainP
set_option linter.unusedVariables false
namespace Go.Proofs.Ytmjdgplkcocgmaa

theorem sumN_le {f g : Nat → Nat} (n : Nat) (h : ∀ i, i < n → f i ≤ g i) : sumN f n ≤ sumN g n := by
  induction n with
  | zero => exact Nat.le_refl _
  | succ n ih => unfold sumN; have := ih fun i hi => h i (by omega); have := h n (by omega); omega
theorem sumN_add (f g : Nat → Nat) (n : Nat) : sumN (fun i => f i + g i) n = sumN f n + sumN g n := by
  induction n with
  | zero => rfl
  | succ n ih => unfold sumN; omega
theorem sumN_const (m n : Nat) : sumN (fun _ => m) n = n * m := by
  induction n with
  | zero => simp [sumN]
  | succ n ih => unfold sumN; rw [ih, Nat.add_mul]; omega
theorem sumN_zero_iff {f : Nat → Nat} (n : Nat) : sumN f n = 0 ↔ ∀ i, i < n → f i = 0 := by
  induction n with
  | zero => exact ⟨fun _ i hi => absurd hi (by omega), fun _ => rfl⟩
  | succ n ih =>
    unfold sumN
    constructor
    · intro h i hi
      by_cases e : i = n
      · subst e; omega
      · exact (ih.1 (by omega)) i (by omega)
    · intro h
      have h1 := ih.2 fun i hi => h i (by omega)
      have h2 := h n (by omega)
      omega
theorem cnt_sum (p : Nat → Bool) (n : Nat) : cnt p n = sumN (fun i => if p i then 1 else 0) n := by
  induction n with
  | zero => rfl
  | succ n ih => unfold cnt sumN; rw [ih]
theorem cnt_congr {p q : Nat → Bool} (n : Nat) (h : ∀ i, i < n → p i = q i) : cnt p n = cnt q n := by
  rw [cnt_sum, cnt_sum]
  exact sumN_congr n fun i hi => by rw [h i hi]
theorem cnt_zero_iff (p : Nat → Bool) (n : Nat) : cnt p n = 0 ↔ ∀ i, i < n → p i = false := by
  rw [cnt_sum, sumN_zero_iff]
  constructor
  · intro h i hi
    have := h i hi
    cases hp : p i
    · rfl
    · rw [hp] at this; simp at this
  · intro h i hi
    rw [h i hi]; rfl
theorem cnt_all_iff (p : Nat → Bool) (n : Nat) : cnt p n = n ↔ ∀ i, i < n → p i = true := by
  have h1 := cnt_not p n
  have h2 := cnt_zero_iff (fun i => !p i) n
  constructor
  · intro h i hi
    have := h2.1 (by omega) i hi
    simpa using this
  · intro h
    have := h2.2 fun i hi => by rw [h i hi]; rfl
    omega
theorem swap_sum (P : Nat → Nat → Bool) (n m : Nat) : sumN (fun i => cnt (fun j => P i j) m) n = sumN (fun j => cnt (fun i => P i j) n) m := by
  induction n with
  | zero =>
    rw [(sumN_zero_iff (f := fun j => cnt (fun i => P i j) 0) m).2 fun i _ => rfl]
    rfl
  | succ n ih =>
    show sumN _ n + cnt (fun j => P n j) m = sumN (fun j => cnt (fun i => P i j) n + (if P n j then 1 else 0)) m
    rw [sumN_add, ih, cnt_sum (fun j => P n j) m]

theorem row_at {rows : List (List Bool)} (h : pressingOk rows = true) {i : Nat} (hi : i < rows.length) : ∃ r, rows[i]? = some r ∧ r.length = head0 rows := by
  obtain ⟨_, _, h3⟩ := pressing_parts h
  exact ⟨rows[i], List.getElem?_eq_getElem hi, h3 i _ (List.getElem?_eq_getElem hi)⟩
theorem pressing_of {rows : List (List Bool)} {m : Nat} (h1 : 1 ≤ rows.length) (h2 : rows.length ≤ 12) (hm : m ≤ 11) (h : ∀ (i : Nat) (r : List Bool), rows[i]? = some r → r.length = m) : pressingOk rows = true ∧ head0 rows = m := by
  have h0 : rows[0]? = some (rows[0]'(by omega)) := List.getElem?_eq_getElem _
  have hh : head0 rows = m := by
    unfold head0
    rw [List.getD_eq_getElem?_getD, h0]
    exact h 0 _ h0
  refine ⟨?_, hh⟩
  unfold pressingOk
  rw [Bool.and_eq_true, hh]
  refine ⟨?_, within_iff.2 (by omega)⟩
  rw [List.all_eq_true]
  intro r hr
  obtain ⟨i, hi⟩ := List.getElem?_of_mem hr
  have := h i r hi
  unfold pressRow
  simp
  omega

/-! ### a row that is turned -/
theorem flip_ok {rows : List (List Bool)} (h : pressingOk rows = true) {k : Nat} (hk : k < rows.length) : flipOk rows (k : Int) = true := by
  unfold flipOk
  rw [h, Bool.true_and]
  exact within_iff.2 (by omega)
theorem flip_rows {rows : List (List Bool)} (h : pressingOk rows = true) {k : Nat} (hk : k < rows.length) {i : Nat} {r : List Bool} (hr : rows[i]? = some r) :
    (flipRow rows (k : Int))[i]? = some (if i = k then r.map (!·) else r) := by
  obtain ⟨r0, hr0, _⟩ := row_at h hk
  rw [flipRow_yes (flip_ok h hk) hr0, List.getElem?_set]
  by_cases e : k = i
  · subst e
    rw [hr0] at hr
    injection hr with hr
    rw [if_pos rfl, if_pos hk, if_pos rfl, hr]
  · rw [if_neg e, if_neg (Ne.symm e), hr]
theorem flip_valid {rows : List (List Bool)} (h : pressingOk rows = true) {k : Nat} (hk : k < rows.length) : pressingOk (flipRow rows (k : Int)) = true ∧ head0 (flipRow rows (k : Int)) = head0 rows := by
  obtain ⟨h1, h2, h3⟩ := pressing_parts h
  refine pressing_of (by rw [flipRow_len]; exact h1.1) (by rw [flipRow_len]; exact h1.2) h2 fun i r hr => ?_
  have hi : i < rows.length := by rw [← flipRow_len rows (k : Int)]; exact (List.getElem?_eq_some_iff.1 hr).1
  obtain ⟨r0, hr0, hl⟩ := row_at h hi
  rw [flip_rows h hk hr0] at hr
  injection hr with hr
  rw [← hr]
  split
  · rw [List.length_map, hl]
  · exact hl
theorem flip_back {rows : List (List Bool)} (h : pressingOk rows = true) {k : Nat} (hk : k < rows.length) : flipRow (flipRow rows (k : Int)) (k : Int) = rows := by
  have hv := flip_valid h hk
  apply List.ext_getElem?
  intro i
  by_cases hi : i < rows.length
  · obtain ⟨r0, hr0, _⟩ := row_at h hi
    rw [flip_rows hv.1 (by rw [flipRow_len]; exact hk) (flip_rows h hk hr0), hr0]
    split
    · rw [List.map_map, show ((fun x : Bool => !x) ∘ fun x : Bool => !x) = id from funext fun x => Bool.not_not x, List.map_id]
    · rfl
  · rw [List.getElem?_eq_none (by rw [flipRow_len, flipRow_len]; omega), List.getElem?_eq_none (by omega)]
theorem bit_flip {rows : List (List Bool)} (h : pressingOk rows = true) {k : Nat} (hk : k < rows.length) {i j : Nat} (hi : i < rows.length) (hj : j < head0 rows) :
    bit (flipRow rows (k : Int)) i j = if i = k then !bit rows i j else bit rows i j := by
  obtain ⟨r0, hr0, hl⟩ := row_at h hi
  have hx : r0[j]? = some (r0[j]'(by omega)) := List.getElem?_eq_getElem _
  rw [bit_eq hr0 hx]
  by_cases e : i = k
  · rw [if_pos e]
    refine bit_eq (r := r0.map (!·)) ?_ (by rw [List.getElem?_map, hx]; rfl)
    rw [flip_rows h hk hr0, if_pos e]
  · rw [if_neg e]
    exact bit_eq (by rw [flip_rows h hk hr0, if_neg e]) hx

/-! ### rows that alternate -/
theorem nest_all {n m : Nat} (hn : 1 ≤ n) (hn2 : n ≤ 12) (hm : m ≤ 11) (up : Bool) : (within (n : Int) 1 12 && within (m : Int) 0 11) = true := by
  rw [Bool.and_eq_true]
  exact ⟨within_iff.2 (by omega), within_iff.2 (by omega)⟩
theorem nest_at {n m : Nat} (hn : 1 ≤ n) (hn2 : n ≤ 12) (hm : m ≤ 11) (up : Bool) {i : Nat} (hi : i < n) : (nested (n : Int) (m : Int) up)[i]? = some (nestRow m up i) := by
  rw [nested_yes up (nest_all hn hn2 hm up)]
  simp [hi]
theorem nest_len {n m : Nat} (hn : 1 ≤ n) (hn2 : n ≤ 12) (hm : m ≤ 11) (up : Bool) : (nested (n : Int) (m : Int) up).length = n := by
  rw [nested_yes up (nest_all hn hn2 hm up)]
  simp
theorem nest_valid {n m : Nat} (hn : 1 ≤ n) (hn2 : n ≤ 12) (hm : m ≤ 11) (up : Bool) : pressingOk (nested (n : Int) (m : Int) up) = true ∧ head0 (nested (n : Int) (m : Int) up) = m := by
  have hl := nest_len hn hn2 hm up
  refine pressing_of (by omega) (by omega) hm fun i r hr => ?_
  have hi : i < n := by rw [← hl]; exact (List.getElem?_eq_some_iff.1 hr).1
  rw [nest_at hn hn2 hm up hi] at hr
  injection hr with hr
  rw [← hr]
  simp [nestRow]
theorem nest_bit {n m : Nat} (hn : 1 ≤ n) (hn2 : n ≤ 12) (hm : m ≤ 11) (up : Bool) {i j : Nat} (hi : i < n) (hj : j < m) : bit (nested (n : Int) (m : Int) up) i j = (up == (i % 2 == 0)) := by
  refine bit_eq (nest_at hn hn2 hm up hi) ?_
  unfold nestRow
  rw [List.getElem?_replicate, if_pos hj]
  congr 2
  rw [Bool.eq_iff_iff, beq_iff_eq, beq_iff_eq]
  omega
theorem parity (i : Nat) : ((i + 1) % 2 == 0) = !(i % 2 == 0) := by
  rw [Bool.eq_iff_iff]
  simp
  omega
theorem nest_clashes {n m : Nat} (hn : 1 ≤ n) (hn2 : n ≤ 12) (hm : m ≤ 11) (up : Bool) : clashesOf (nested (n : Int) (m : Int) up) = 0 := by
  obtain ⟨hv, hh⟩ := nest_valid hn hn2 hm up
  unfold clashesOf
  rw [hv, if_pos rfl, (sumN_zero_iff _).2 fun k hk => ?_]
  · rfl
  · rw [nest_len hn hn2 hm up] at hk
    rw [hh]
    refine (cnt_zero_iff _ _).2 fun j hj => ?_
    unfold clashBit
    rw [nest_bit hn hn2 hm up (by omega) hj, nest_bit hn hn2 hm up (by omega) hj, parity]
    cases up <;> cases (k % 2 == 0) <;> rfl
theorem nest_flips {n m : Nat} (hn : 1 ≤ n) (hn2 : n ≤ 12) (hm : m ≤ 11) : fewestFlips (nested (n : Int) (m : Int) false) = 0 := by
  obtain ⟨hv, hh⟩ := nest_valid hn hn2 hm false
  unfold fewestFlips
  rw [hv, if_pos rfl, (sumN_zero_iff _).2 fun j hj => ?_]
  · rfl
  · rw [hh] at hj
    unfold flipsAt
    rw [nest_len hn hn2 hm false, (cnt_zero_iff _ _).2 fun i hi => ?_]
    · simp
    · unfold flipBit
      rw [nest_bit hn hn2 hm false hi hj]
      cases (i % 2 == 0) <;> rfl

/-! ### clashes and flips -/
theorem clash_flip (rows : List (List Bool)) (k j : Nat) : clashBit rows k j = !(flipBit rows j (k + 1) == flipBit rows j k) := by
  unfold clashBit flipBit
  rw [parity]
  cases bit rows (k + 1) j <;> cases bit rows k j <;> cases (k % 2 == 0) <;> rfl
theorem const_of {p : Nat → Bool} {n : Nat} (h : ∀ k, k + 1 < n → p (k + 1) = p k) : ∀ i, i < n → p i = p 0 := by
  intro i
  induction i with
  | zero => intro _; rfl
  | succ i ih => intro hi; rw [h i hi]; exact ih (by omega)
theorem none_iff {rows : List (List Bool)} (h : pressingOk rows = true) : clashesOf rows = 0 ↔ fewestFlips rows = 0 := by
  obtain ⟨⟨h1, _⟩, _, _⟩ := pressing_parts h
  have hc : clashesOf rows = 0 ↔ ∀ k, k < rows.length - 1 → ∀ j, j < head0 rows → clashBit rows k j = false := by
    unfold clashesOf
    rw [h, if_pos rfl]
    constructor
    · intro hz k hk
      have hz' : sumN (fun k => cnt (clashBit rows k) (head0 rows)) (rows.length - 1) = 0 := by omega
      exact (cnt_zero_iff _ _).1 ((sumN_zero_iff _).1 hz' k hk)
    · intro hz
      rw [(sumN_zero_iff _).2 fun k hk => (cnt_zero_iff _ _).2 (hz k hk)]
      rfl
  have hf : fewestFlips rows = 0 ↔ ∀ j, j < head0 rows → flipsAt rows j = 0 := by
    unfold fewestFlips
    rw [h, if_pos rfl]
    constructor
    · intro hz
      have hz' : sumN (flipsAt rows) (head0 rows) = 0 := by omega
      exact (sumN_zero_iff _).1 hz'
    · intro hz
      rw [(sumN_zero_iff _).2 hz]
      rfl
  rw [hc, hf]
  have hle : ∀ j, cnt (flipBit rows j) rows.length ≤ rows.length := fun j => cnt_le _ _
  constructor
  · intro hz j hj
    have hk : ∀ k, k + 1 < rows.length → flipBit rows j (k + 1) = flipBit rows j k := fun k hk => by
      have := hz k (by omega) j hj
      rw [clash_flip] at this
      simpa using this
    have hcst := const_of hk
    unfold flipsAt
    cases h0 : flipBit rows j 0
    · rw [(cnt_zero_iff _ _).2 fun i hi => by rw [hcst i hi, h0]]
      simp
    · rw [(cnt_all_iff _ _).2 fun i hi => by rw [hcst i hi, h0]]
      simp
  · intro hz k hk j hj
    have h2 := hz j hj
    have h3 := hle j
    unfold flipsAt at h2
    rw [clash_flip]
    by_cases e : cnt (flipBit rows j) rows.length = 0
    · have h4 := (cnt_zero_iff _ _).1 e
      rw [h4 _ (by omega), h4 _ (by omega)]
      rfl
    · have h4 := (cnt_all_iff _ _).1 (show cnt (flipBit rows j) rows.length = rows.length by omega)
      rw [h4 _ (by omega), h4 _ (by omega)]
      rfl
theorem clashes_nonneg {rows : List (List Bool)} (h : pressingOk rows = true) : 0 ≤ clashesOf rows := by
  unfold clashesOf
  rw [h, if_pos rfl]
  omega
theorem sumN_mul_le {f : Nat → Nat} {b : Nat} (n : Nat) (h : ∀ i, i < n → f i ≤ b) : sumN f n ≤ n * b := by
  have := sumN_le (g := fun _ => b) n h
  rwa [sumN_const] at this
theorem clashes_le {rows : List (List Bool)} : clashesOf rows ≤ 121 := by
  unfold clashesOf
  split
  · rename_i h
    obtain ⟨⟨h1, h2⟩, h3, _⟩ := pressing_parts h
    have h4 := sumN_mul_le (f := fun k => cnt (clashBit rows k) (head0 rows)) (b := 11) (rows.length - 1) fun k _ => Nat.le_trans (cnt_le _ _) h3
    omega
  · omega
theorem flips_half {rows : List (List Bool)} (h : pressingOk rows = true) : 0 ≤ fewestFlips rows ∧ fewestFlips rows ≤ (rows.length : Int) * (head0 rows : Int) / 2 := by
  have h1 : 2 * sumN (flipsAt rows) (head0 rows) ≤ head0 rows * rows.length := by
    have := sumN_mul_le (f := fun j => flipsAt rows j + flipsAt rows j) (b := rows.length) (head0 rows) fun j _ => by unfold flipsAt; omega
    rw [sumN_add] at this
    omega
  unfold fewestFlips
  rw [h, if_pos rfl]
  refine ⟨by omega, ?_⟩
  rw [Int.le_ediv_iff_mul_le (by omega), Int.mul_comm (rows.length : Int), ← Int.natCast_mul]
  omega
/-- the places where a pressing is not as the rows that alternate -/
def oneOf (rows : List (List Bool)) (n : Nat) : Nat := sumN (fun i => cnt (fun j => !flipBit rows j i) (head0 rows)) n
theorem one_le (rows : List (List Bool)) (n : Nat) : oneOf rows n ≤ n * head0 rows := sumN_mul_le n fun i _ => cnt_le _ _
theorem flips_one {rows : List (List Bool)} (h : pressingOk rows = true) : fewestFlips rows ≤ (oneOf rows rows.length : Int) ∧ fewestFlips rows ≤ (rows.length : Int) * (head0 rows : Int) - (oneOf rows rows.length : Int) := by
  have h1 : oneOf rows rows.length = sumN (fun j => cnt (fun i => !flipBit rows j i) rows.length) (head0 rows) := swap_sum (fun i j => !flipBit rows j i) _ _
  have h2 : sumN (flipsAt rows) (head0 rows) ≤ oneOf rows rows.length := by
    rw [h1]
    exact sumN_le _ fun j _ => by have := cnt_not (flipBit rows j) rows.length; unfold flipsAt; omega
  have h3 : sumN (flipsAt rows) (head0 rows) + oneOf rows rows.length ≤ head0 rows * rows.length := by
    rw [h1, ← sumN_add]
    exact sumN_mul_le _ fun j _ => by have := cnt_not (flipBit rows j) rows.length; have := cnt_le (flipBit rows j) rows.length; unfold flipsAt; omega
  unfold fewestFlips
  rw [h, if_pos rfl, ← Int.natCast_mul, Nat.mul_comm]
  omega

/-! ### the clashes of a pressing of which one row is turned -/
def near (k m t : Nat) : Nat := if t + 1 = k ∨ t = k then m else 0
theorem near_sum (k m N : Nat) : sumN (near k m) N = (if 0 < k ∧ k ≤ N then m else 0) + (if k < N then m else 0) := by
  induction N with
  | zero => simp [sumN]; omega
  | succ N ih =>
    show sumN (near k m) N + near k m N = _
    rw [ih]
    unfold near
    repeat' split
    all_goals omega
theorem turned_clashes {rows : List (List Bool)} (h : pressingOk rows = true) {k : Nat} (hk : k < rows.length) :
    clashesOf (flipRow rows (k : Int)) ≤ clashesOf rows + ((if 0 < k then (head0 rows : Int) else 0) + (if k + 1 < rows.length then (head0 rows : Int) else 0)) ∧
    (if 0 < k then (head0 rows : Int) else 0) + (if k + 1 < rows.length then (head0 rows : Int) else 0) ≤ clashesOf (flipRow rows (k : Int)) + clashesOf rows := by
  obtain ⟨hv, hh⟩ := flip_valid h hk
  have hsum := near_sum k (head0 rows) (rows.length - 1)
  have hone : ∀ t, t < rows.length - 1 → cnt (clashBit (flipRow rows (k : Int)) t) (head0 rows) ≤ cnt (clashBit rows t) (head0 rows) + near k (head0 rows) t ∧ near k (head0 rows) t ≤ cnt (clashBit (flipRow rows (k : Int)) t) (head0 rows) + cnt (clashBit rows t) (head0 rows) := by
    intro t ht
    by_cases e : t + 1 = k ∨ t = k
    · have hc : cnt (clashBit (flipRow rows (k : Int)) t) (head0 rows) = cnt (fun j => !clashBit rows t j) (head0 rows) := cnt_congr _ fun j hj => by
        unfold clashBit
        rw [bit_flip h hk (by omega) hj, bit_flip h hk (by omega) hj]
        rcases e with e | e
        · rw [if_pos e, if_neg (by omega)]
          cases bit rows (t + 1) j <;> cases bit rows t j <;> rfl
        · rw [if_pos e, if_neg (by omega)]
          cases bit rows (t + 1) j <;> cases bit rows t j <;> rfl
      have := cnt_not (clashBit rows t) (head0 rows)
      unfold near
      rw [if_pos e, hc]
      omega
    · have hc : cnt (clashBit (flipRow rows (k : Int)) t) (head0 rows) = cnt (clashBit rows t) (head0 rows) := cnt_congr _ fun j hj => by
        unfold clashBit
        rw [bit_flip h hk (by omega) hj, bit_flip h hk (by omega) hj, if_neg (by omega), if_neg (by omega)]
      unfold near
      rw [if_neg e, hc]
      omega
  have h1 := sumN_le (rows.length - 1) fun t ht => (hone t ht).1
  have h2 := sumN_le (rows.length - 1) fun t ht => (hone t ht).2
  rw [sumN_add, hsum] at h1
  rw [sumN_add, hsum] at h2
  unfold clashesOf
  rw [hv, h, hh, flipRow_len, if_pos rfl, if_pos rfl]
  by_cases c1 : 0 < k
  · by_cases c2 : k + 1 < rows.length
    · rw [if_pos (by omega), if_pos (by omega)] at h1 h2
      rw [if_pos c1, if_pos c2]
      omega
    · rw [if_pos (by omega), if_neg (by omega)] at h1 h2
      rw [if_pos c1, if_neg c2]
      omega
  · by_cases c2 : k + 1 < rows.length
    · rw [if_neg (by omega), if_pos (by omega)] at h1 h2
      rw [if_neg c1, if_pos c2]
      omega
    · rw [if_neg (by omega), if_neg (by omega)] at h1 h2
      rw [if_neg c1, if_neg c2]
      omega

end Go.Proofs.Ytmjdgplkcocgmaa
