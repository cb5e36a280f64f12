/-
  A map[int]bool that the call makes: which numbers are marked.
-/
import Derived.Test.YtmjdgplkcocgmaaRows
import Derived.Test.YtmjdgplkcocgmaaBase
import Derived.Maps.OwnOps
import Derived.Maps.Views
set_option linter.unusedVariables false
namespace Go.Proofs.Ytmjdgplkcocgmaa
open Go.RowKit Go.Maps

theorem keyInt : Keyed Try.prog 3 := int_keyed Try.underlying3
theorem zeroBool (w : World) : (zeroValue 4).run Try.prog w = .ok (.bool false) w := by kernel_rfl

theorem plainElem_bool_inv {H : Type} {P : Program} {e : TypeId} (he : P.underlying e = some .bool) {v : Value} {z : DataW H × List MemPlace} (h : plainElem P e v = some z) : ∃ x, v = .bool x ∧ z = (.lit (.bool x), []) := by
  unfold plainElem at h
  rw [he] at h
  cases v <;> simp at h
  exact ⟨_, rfl, h.symm⟩

/-- Block b is a map of at most n entries; number p is marked just if u has true at p. -/
def Marked (w : World) (b n : Nat) (u : List Bool) : Prop :=
  ∃ D : DataW Unit, w.ownsMap Try.prog 3 (plainElem Try.prog 4) b n D ∧ IsMap D ∧ ∀ p : Nat, D.atKey (.int .i64 p) (.lit (.bool false)) = .lit (.bool (u.getD p false))

theorem Marked.made (w : World) (m : Nat) : Marked (w.alloc (.map #[] 0)) w.heap.size 0 (List.replicate m false) :=
  ⟨_, World.ownsMap_made _ _ _ _, ⟨_, rfl⟩, fun p => by
    rw [List.getD_eq_getElem?_getD, List.getElem?_replicate]
    show DataW.lit (.bool false) = _
    split <;> rfl⟩
theorem Marked.below {w w' : World} {b n : Nat} {u : List Bool} (h : Marked w b n u) (hb : Below w.heap.size w w') : Marked w' b n u := by
  obtain ⟨D, ⟨es, clock, h1, F, hs, hD⟩, h2, h3⟩ := h
  exact ⟨D, ⟨es, clock, (hb.block b (heap_lt h1)).trans h1, F, hs, hD⟩, h2, h3⟩
theorem Marked.lt {w : World} {b n : Nat} {u : List Bool} (h : Marked w b n u) : b < w.heap.size := by
  obtain ⟨D, ⟨es, clock, h1, _⟩, _⟩ := h
  exact heap_lt h1
theorem Marked.look {w : World} {b n : Nat} {u : List Bool} (h : Marked w b n u) (p : Nat) (hp : p ≤ 8388608) : (Instr.lookup 121 (.map (some b)) (.int .i64 p) false).run Try.prog w = .ok (.bool (u.getD p false)) w := by
  obtain ⟨D, h1, h2, h3⟩ := h
  obtain ⟨v, ps, hrun, hv⟩ := h1.lookup keyInt Try.underlying121 (zeroBool w) (plainElem_bool Try.underlying4 false) (keyOf_int_mk Try.underlying3 (WalkArith.wf_i64 (n := (p : Int)) (by omega)))
  obtain ⟨x, rfl, hx⟩ := plainElem_bool_inv Try.underlying4 hv
  rw [h3] at hx
  simp only [Prod.mk.injEq, DataW.lit.injEq, Lit.bool.injEq] at hx
  rw [hrun, hx.1]

theorem Marked.update {w : World} {b n : Nat} {u : List Bool} (hown : Marked w b n u) (hn : n ≤ 8388608) {p : Nat} (hp : p < u.length) (hpl : p ≤ 8388608) :
    ∃ w', (Instr.mapUpdate 121 (.map (some b)) (.int .i64 p) (.bool true)).run Try.prog w = .ok () w' ∧ Marked w' b (n + 1) (u.set p true) ∧ w.grownBy w' (some b) := by
  obtain ⟨D, h1, h2, h3⟩ := hown
  obtain ⟨w', hrun, hown1, hgrow1⟩ := h1.update keyInt Try.underlying121 (by unfold maxLen; omega) (keyOf_int_mk Try.underlying3 (WalkArith.wf_i64 (n := (p : Int)) (by omega))) (plainElem_bool Try.underlying4 true)
  refine ⟨w', hrun, ⟨_, hown1, ?_, fun q => ?_⟩, hgrow1⟩
  · obtain ⟨es, rfl⟩ := h2
    exact ⟨_, rfl⟩
  · rw [List.getD_eq_getElem?_getD, List.getElem?_set]
    by_cases e : p = q
    · subst e
      rw [if_pos rfl, if_pos hp, atKey_put_same h2 (by trivial)]; rfl
    · rw [if_neg e, atKey_put_other (by intro h; injection h; omega), h3, List.getD_eq_getElem?_getD]

theorem step_mark {w : World} {ops : Array Oper} {o : Oper} {a : Act} {K : Act → World → Prop} {Q : Exit → Act → World → Prop} {E : Prop}
    (hg : o.guard = none) (m x v : Operand) (hop : o.op = Op.mapUpdate 121 m x v) (b n : Nat) (u : List Bool) (p : Nat)
    (hm : a.eval m = .map (some b)) (hown : Marked w b n u) (hn : n ≤ 8388608) (hp : p < u.length) (hpl : p ≤ 8388608) (hx : a.eval x = .int .i64 p) (hv : a.eval v = .bool true)
    (hK : ∀ w', Marked w' b (n + 1) (u.set p true) → w.grownBy w' (some b) → K (a.put o.dst undef) w') :
    if Region.wanted o (yielded ops a.tmps) = true then Oper.wp Try.prog o a w K Q else E := by
  obtain ⟨w', hrun, h1, h2⟩ := hown.update hn hp hpl
  rw [if_pos (by simp [Region.wanted, hg])]
  unfold Oper.wp
  simp [execOp, hop, hm, hx, hv, hrun, Result.andThen]
  exact hK w' h1 h2

end Go.Proofs.Ytmjdgplkcocgmaa
