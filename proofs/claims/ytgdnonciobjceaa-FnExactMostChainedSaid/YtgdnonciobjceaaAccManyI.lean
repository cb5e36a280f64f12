/-
  append(out, src...) of integers: what is only read is copied behind what is built.
-/
import Derived.Test.YtgdnonciobjceaaAccInt
set_option linter.unusedVariables false
namespace Go.Proofs.Ytgdnonciobjceaa
open Go.RowKit

theorem run_append_nilI {P : Program} {w : World} (base : Nat) (t ty e : TypeId) (i : TypeInfo) (size c : Nat) (ht : P.underlying t = some (.slice e)) (hi : P.info? e = some i)
    (v : Value) (n : Nat) (xs : List Value) (hown : w.ownsRow base e size v n xs) :
    (Builtin.append_ #[t, t] ty #[v, .slice none 0 c]).run P w = .ok v w := by
  rcases hown.2 with ⟨rfl, rfl⟩ | ⟨g, cap, cur, rfl, _, _, hnc, _⟩
  · simp [Builtin.append_, run_underlying ht, sizeOf, typeInfo, hi, Builtin.lenOf, Builtin.firstCells]
  · simp [Builtin.append_, run_underlying ht, sizeOf, typeInfo, hi, Builtin.lenOf, Builtin.firstCells, hnc, storeCells]

theorem wpList_accsI {P : Program} {w : World} {ops : Array Oper} {rest : List Oper} {o : Oper} {a : Act} {Q : Exit → Act → World → Prop} (hgd : o.guard = none) (s x : Operand) (t : TypeId)
    (ho : o.op = .call { callee := .builtin .append, args := #[s, x], argTypes := #[t, t] })
    (lo : Nat) (e : TypeId) (ht : P.underlying t = some (.slice e)) (hinfo : (P.info? e).map (fun i => (i.zero, i.size, i.bytes)) = some (some (.int .i64 0), 1, 8))
    (v : Value) (xs ys : List Int) (hs : a.eval s = v) (hacc : Acc w lo e 1 v xs intC) (A : Option Addr) (n c : Nat) (hx : a.eval x = .slice A n c) (hR : Rd w A n 1 ys intC)
    (h63 : xs.length + n ≤ 4294967296) (hlo : lo ≤ w.heap.size)
    (h : ∀ v' w', Acc w' lo e 1 v' (xs ++ ys) intC → w.grownBy w' v.ownBlock → (v'.ownBlock = v.ownBlock ∨ v'.ownBlock = some w.heap.size) → wpList P ops Q rest (a.put o.dst v') w') :
    wpList P ops Q (o :: rest) a w := by
  obtain ⟨i, hi, hzz⟩ := Option.map_eq_some_iff.1 hinfo
  simp only [Prod.mk.injEq] at hzz
  obtain ⟨hz, hsi, hbi⟩ := hzz
  have hlen := hR.len
  cases A with
  | none =>
    have hn0 : n = 0 := by
      rcases Nat.eq_zero_or_pos n with e1 | e1
      · exact e1
      · obtain ⟨b, off, x, e2, _⟩ := hR.at1 (v := (Value.int .i64)) e1 (Below.refl _ _)
        cases e2
    subst hn0
    have hy : ys = [] := List.eq_nil_of_length_eq_zero hlen
    subst hy
    refine wpList_plain hgd fun K hK => ?_
    have hrun := run_append_nilI (P := P) (w := w) lo t o.type e i 1 c ht hi v _ _ hacc
    unfold Oper.wp
    simp [execOp, ho, resolve, invoke, builtin, hs, hx, hrun, Result.andThen]
    refine hK _ _ (h v w (by simpa using hacc) (World.grownBy.refl _ _) (.inl rfl))
  | some ad =>
    refine wpList_append_own_at w hgd s x t ho lo e i (.int .i64 0) 1 8 ht hi hz hsi hbi rfl (by decide) v xs.length (xs.flatMap intC) hs hacc ad n c (ys.flatMap intC) hx ?_ ?_ ?_ (by unfold maxLen; omega) (by omega) hlo ?_
    · rw [flat_ints, List.length_map, hlen, Nat.mul_one]
    · intro j u hu
      rw [flat_ints, List.getElem?_map] at hu
      obtain ⟨y, hy, rfl⟩ := Option.map_eq_some_iff.1 hu
      have hj : j < n := by rw [← hlen]; exact (List.getElem?_eq_some_iff.1 hy).1
      obtain ⟨b, off, x, e2, _, hx', hc⟩ := hR.at1 (v := (Value.int .i64)) hj (Below.refl _ _)
      injection e2 with e2
      subst e2
      rw [hy] at hx'
      injection hx' with hx'
      subst hx'
      rw [add_form]
      exact hc
    · intro u hu
      rw [flat_ints] at hu
      obtain ⟨y, _, rfl⟩ := List.mem_map.1 hu
      rfl
    · intro v' w' hown hgrow _ hat
      refine h v' w' ?_ hgrow hat
      show w'.ownsRow lo e 1 v' (xs ++ ys).length ((xs ++ ys).flatMap intC)
      rw [List.length_append, hlen, List.flatMap_append]
      exact hown

end Go.Proofs.Ytgdnonciobjceaa
