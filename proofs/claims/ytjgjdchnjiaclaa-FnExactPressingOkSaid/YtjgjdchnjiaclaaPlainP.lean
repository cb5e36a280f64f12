/-
  Plain functions for pressing; no program in sight.
-/
import Derived.Test.YtjgjdchnjiaclaaPlainL
set_option linter.unusedVariables false
namespace Go.Proofs.Ytjgjdchnjiaclaa

def head0 (rows : List (List Bool)) : Nat := (rows.getD 0 []).length
def pressRow (l : Nat) (r : List Bool) : Bool := decide (r.length = l) && decide (r.length ≤ 11)
def pressingOk (rows : List (List Bool)) : Bool := rows.all (pressRow (head0 rows)) && within (rows.length : Int) 1 12
theorem press_bad {rows : List (List Bool)} {k : Nat} {r : List Bool} (hx : rows[k]? = some r) (h : pressRow (head0 rows) r = false) : false = pressingOk rows := by
  unfold pressingOk
  rw [all_no hx h, Bool.false_and]
theorem press_end {rows : List (List Bool)} {n : Nat} (hn : rows.length = n) (h : (rows.take n).all (pressRow (head0 rows)) = true) : within (n : Int) 1 12 = pressingOk rows := by
  rw [List.take_of_length_le (by omega)] at h
  unfold pressingOk
  rw [h, hn, Bool.true_and]
theorem pressing_parts {rows : List (List Bool)} (h : pressingOk rows = true) : (1 ≤ rows.length ∧ rows.length ≤ 12) ∧ head0 rows ≤ 11 ∧ ∀ (i : Nat) (r : List Bool), rows[i]? = some r → r.length = head0 rows := by
  unfold pressingOk at h
  rw [Bool.and_eq_true] at h
  have h1 := within_iff.1 h.2
  have h2 : ∀ (i : Nat) (r : List Bool), rows[i]? = some r → r.length = head0 rows ∧ r.length ≤ 11 := fun i r hr => by
    have := List.all_eq_true.1 h.1 r (List.mem_of_getElem? hr)
    unfold pressRow at this
    simpa using this
  refine ⟨by omega, ?_, fun i r hr => (h2 i r hr).1⟩
  have h0 : rows[0]? = some (rows[0]'(by omega)) := List.getElem?_eq_getElem _
  have := h2 0 _ h0
  omega

end Go.Proofs.Ytjgjdchnjiaclaa
