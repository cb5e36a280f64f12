/-
  Plain functions for pressing; no program in sight.
-/
import Derived.Test.YtmjdgplkcocgmaaPlainL
set_option linter.unusedVariables false
namespace Go.Proofs.Ytmjdgplkcocgmaa

def head0 (rows : List (List Bool)) : Nat := (rows.getD 0 []).length
def pressRow (l : Nat) (r : List Bool) : Bool := decide (r.length = l) && decide (r.length ≤ 11)
def pressingOk (rows : List (List Bool)) : Bool := rows.all (pressRow (head0 rows)) && within (rows.length : Int) 1 12
theorem press_bad {rows : List (List Bool)} {k : Nat} {r : List Bool} (hx : rows[k]? = some r) (h : pressRow (head0 rows) r = false) : false = pressingOk rows := by
  unfold pressingOk
  rw [all_no hx h, Bool.false_and]
theorem press_end {rows : List (List Bool)} {n : Nat} (hn : rows.length = n) (h : (rows.take n).all (pressRow (head0 rows)) = true) : within (n : Int) 1 12 = pressingOk rows := by
  rw [List.take_of_length_le (by omega)] at h
  unfold pressingOk
  rw [h, hn, Bool.true_and]
theorem pressing_parts {rows : List (List Bool)} (h : pressingOk rows = true) : (1 ≤ rows.length ∧ rows.length ≤ 12) ∧ head0 rows ≤ 11 ∧ ∀ (i : Nat) (r : List Bool), rows[i]? = some r → r.length = head0 rows := by
  unfold pressingOk at h
  rw [Bool.and_eq_true] at h
  have h1 := within_iff.1 h.2
  have h2 : ∀ (i : Nat) (r : List Bool), rows[i]? = some r → r.length = head0 rows ∧ r.length ≤ 11 := fun i r hr => by
    have := List.all_eq_true.1 h.1 r (List.mem_of_getElem? hr)
    unfold pressRow at this
    simpa using this
  refine ⟨by omega, ?_, fun i r hr => (h2 i r hr).1⟩
  have h0 : rows[0]? = some (rows[0]'(by omega)) := List.getElem?_eq_getElem _
  have := h2 0 _ h0
  omega

/-- how many of 0 .. n-1 have p; the sum of f over 0 .. n-1 -/
def cnt (p : Nat → Bool) : Nat → Nat
  | 0 => 0
  | n + 1 => cnt p n + (if p n then 1 else 0)
def sumN (f : Nat → Nat) : Nat → Nat
  | 0 => 0
  | n + 1 => sumN f n + f n
theorem cnt_le (p : Nat → Bool) (n : Nat) : cnt p n ≤ n := by
  induction n with
  | zero => exact Nat.le_refl _
  | succ n ih => unfold cnt; split <;> omega
theorem cnt_yes {p : Nat → Bool} {n : Nat} (h : p n = true) : cnt p (n + 1) = cnt p n + 1 := by
  show cnt p n + (if p n then 1 else 0) = _
  rw [h]; rfl
theorem cnt_no {p : Nat → Bool} {n : Nat} (h : p n = false) : cnt p (n + 1) = cnt p n := by
  show cnt p n + (if p n then 1 else 0) = _
  rw [h]; rfl
theorem cnt_not (p : Nat → Bool) (n : Nat) : cnt (fun i => !p i) n + cnt p n = n := by
  induction n with
  | zero => rfl
  | succ n ih => unfold cnt; cases p n <;> simp <;> omega
theorem sumN_succ (f : Nat → Nat) (n : Nat) : sumN f (n + 1) = sumN f n + f n := rfl
theorem sumN_congr {f g : Nat → Nat} (n : Nat) (h : ∀ i, i < n → f i = g i) : sumN f n = sumN g n := by
  induction n with
  | zero => rfl
  | succ n ih => unfold sumN; rw [ih fun i hi => h i (by omega), h n (by omega)]

def bit (rows : List (List Bool)) (i j : Nat) : Bool := (rows.getD i []).getD j false
theorem bit_eq {rows : List (List Bool)} {i j : Nat} {r : List Bool} {x : Bool} (hr : rows[i]? = some r) (hx : r[j]? = some x) : bit rows i j = x := by
  unfold bit
  simp only [List.getD_eq_getElem?_getD, hr, Option.getD_some, hx]
def clashBit (rows : List (List Bool)) (k j : Nat) : Bool := bit rows (k + 1) j == bit rows k j
def clashesOf (rows : List (List Bool)) : Int := if pressingOk rows then ((sumN (fun k => cnt (clashBit rows k) (head0 rows)) (rows.length - 1) : Nat) : Int) else -1
theorem clash_bad {rows : List (List Bool)} (h : pressingOk rows = false) : (-1 : Int) = clashesOf rows := by
  unfold clashesOf
  rw [h]; rfl
theorem clash_end {rows : List (List Bool)} (h : pressingOk rows = true) {n k t : Nat} (hn : rows.length = n) (hk : k + 1 = n) (ht : t = sumN (fun k => cnt (clashBit rows k) (head0 rows)) k) : (t : Int) = clashesOf rows := by
  unfold clashesOf
  rw [h, hn, ht, ← hk]; rfl

/-- the rows of a seam that do not go as an alternating seam goes -/
def flipBit (rows : List (List Bool)) (j i : Nat) : Bool := bit rows i j == (i % 2 == 0)
def flipsAt (rows : List (List Bool)) (j : Nat) : Nat := min (cnt (flipBit rows j) rows.length) (rows.length - cnt (flipBit rows j) rows.length)
def fewestFlips (rows : List (List Bool)) : Int := if pressingOk rows then ((sumN (flipsAt rows) (head0 rows) : Nat) : Int) else -1
theorem flips_bad {rows : List (List Bool)} (h : pressingOk rows = false) : (-1 : Int) = fewestFlips rows := by
  unfold fewestFlips
  rw [h]; rfl
theorem flips_end {rows : List (List Bool)} (h : pressingOk rows = true) {t : Nat} (ht : t = sumN (flipsAt rows) (head0 rows)) : (t : Int) = fewestFlips rows := by
  unfold fewestFlips
  rw [h, ht]; rfl
theorem flips_not (rows : List (List Bool)) (j : Nat) : flipsAt rows j = min (cnt (fun i => !flipBit rows j i) rows.length) (rows.length - cnt (fun i => !flipBit rows j i) rows.length) := by
  have := cnt_not (flipBit rows j) rows.length
  unfold flipsAt
  omega

/-- rows that alternate -/
def nestRow (m : Nat) (up : Bool) (i : Nat) : List Bool := List.replicate m (up == ((i : Int) % 2 == 0))
def nested (n m : Int) (up : Bool) : List (List Bool) := if within n 1 12 && within m 0 11 then (List.range n.toNat).map (nestRow m.toNat up) else []
theorem nested_no {n m : Int} (up : Bool) (h : (within n 1 12 && within m 0 11) = false) : nested n m up = [] := by
  unfold nested
  rw [h]; rfl
theorem nested_yes {n m : Nat} (up : Bool) (h : (within (n : Int) 1 12 && within (m : Int) 0 11) = true) : nested (n : Int) (m : Int) up = (List.range n).map (nestRow m up) := by
  unfold nested
  rw [h]; rfl
theorem nested_succ (m : Nat) (up : Bool) (k : Nat) : (List.range (k + 1)).map (nestRow m up) = (List.range k).map (nestRow m up) ++ [nestRow m up k] := by
  rw [List.range_succ, List.map_append]; rfl

/-- one row is pressed the other way -/
def flipOk (rows : List (List Bool)) (i : Int) : Bool := pressingOk rows && within i 0 ((rows.length : Int) - 1)
def flipRow (rows : List (List Bool)) (i : Int) : List (List Bool) := if flipOk rows i then rows.set i.toNat ((rows.getD i.toNat []).map (!·)) else rows
theorem flipRow_no {rows : List (List Bool)} {i : Int} (h : flipOk rows i = false) : flipRow rows i = rows := by
  unfold flipRow
  rw [h]; rfl
theorem flipRow_yes {rows : List (List Bool)} {k : Nat} {r : List Bool} (h : flipOk rows (k : Int) = true) (hr : rows[k]? = some r) : flipRow rows (k : Int) = rows.set k (r.map (!·)) := by
  unfold flipRow
  rw [h, if_pos rfl, Int.toNat_natCast, List.getD_eq_getElem?_getD, hr]; rfl
theorem flipRow_len (rows : List (List Bool)) (i : Int) : (flipRow rows i).length = rows.length := by
  unfold flipRow
  split
  · rw [List.length_set]
  · rfl
/-- the first j seams of the row have been turned -/
def turned (r : List Bool) (j : Nat) : List Bool := (r.take j).map (!·) ++ r.drop j
theorem turned_zero (r : List Bool) : turned r 0 = r := by simp [turned]
theorem turned_end {r : List Bool} {j : Nat} (h : r.length ≤ j) : turned r j = r.map (!·) := by
  unfold turned
  rw [List.take_of_length_le h, List.drop_of_length_le h, List.append_nil]
theorem turned_len (r : List Bool) (j : Nat) : (turned r j).length = r.length := by
  unfold turned
  rw [List.length_append, List.length_map, List.length_take, List.length_drop]
  omega
theorem turned_at {r : List Bool} {j : Nat} {x : Bool} (h : r[j]? = some x) : (turned r j)[j]? = some x := by
  have hl := (List.getElem?_eq_some_iff.1 h).1
  unfold turned
  rw [List.getElem?_append_right (by simp; omega), List.getElem?_drop, List.length_map, List.length_take]
  rw [show j + (j - min j r.length) = j by omega]
  exact h
theorem turned_succ {r : List Bool} {j : Nat} {x : Bool} (h : r[j]? = some x) : (turned r j).set j (!x) = turned r (j + 1) := by
  have hl := (List.getElem?_eq_some_iff.1 h).1
  have hx := (List.getElem?_eq_some_iff.1 h).2
  unfold turned
  rw [List.set_append_right _ _ (by simp; omega), List.take_add_one, h, List.map_append]
  rw [show j - ((r.take j).map (!·)).length = 0 by simp; omega]
  rw [List.drop_eq_getElem_cons hl, hx]
  simp

end Go.Proofs.Ytmjdgplkcocgmaa
