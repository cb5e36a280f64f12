/-
  append(out, src...) of flat elements: what is only read is copied behind what is built.
-/
import Derived.Test.YtmjdgplkcocgmaaAcc
import Derived.Laws.OwnMore
set_option linter.unusedVariables false
namespace Go.Proofs.Ytmjdgplkcocgmaa
open Go.RowKit

theorem flat_len {α : Type} {sz : Nat} {cells : α → List Value} (hl : ∀ y, (cells y).length = sz) (ys : List α) : (ys.flatMap cells).length = ys.length * sz := by
  induction ys with
  | nil => simp
  | cons y ys ih => rw [List.flatMap_cons, List.length_append, hl, ih, List.length_cons, Nat.add_mul]; omega
theorem flat_inv {α : Type} {sz : Nat} {cells : α → List Value} (hl : ∀ y, (cells y).length = sz) : ∀ {ys : List α} {j : Nat} {u : Value}, (ys.flatMap cells)[j]? = some u → ∃ (i : Nat) (y : α) (k : Nat), ys[i]? = some y ∧ (cells y)[k]? = some u ∧ j = i * sz + k := by
  intro ys
  induction ys with
  | nil => intro j u h; simp at h
  | cons y ys ih =>
    intro j u h
    rw [List.flatMap_cons] at h
    by_cases hj : j < sz
    · rw [List.getElem?_append_left (by rw [hl]; exact hj)] at h
      exact ⟨0, y, j, rfl, h, by omega⟩
    · rw [List.getElem?_append_right (by rw [hl]; omega), hl] at h
      obtain ⟨i, z, k, h1, h2, h3⟩ := ih h
      exact ⟨i + 1, z, k, by simpa using h1, h2, by rw [Nat.add_mul]; omega⟩
theorem run_append_nilG {P : Program} {w : World} (base : Nat) (t ty e : TypeId) (i : TypeInfo) (size c : Nat) (ht : P.underlying t = some (.slice e)) (hi : P.info? e = some i)
    (v : Value) (n : Nat) (xs : List Value) (hown : w.ownsRow base e size v n xs) :
    (Builtin.append_ #[t, t] ty #[v, .slice none 0 c]).run P w = .ok v w := by
  rcases hown.2 with ⟨rfl, rfl⟩ | ⟨g, cap, cur, rfl, _, _, hnc, _⟩
  · simp [Builtin.append_, run_underlying ht, sizeOf, typeInfo, hi, Builtin.lenOf, Builtin.firstCells]
  · simp [Builtin.append_, run_underlying ht, sizeOf, typeInfo, hi, Builtin.lenOf, Builtin.firstCells, hnc, storeCells]

theorem wpList_accsG {α : Type} {P : Program} {w : World} {ops : Array Oper} {rest : List Oper} {o : Oper} {a : Act} {Q : Exit → Act → World → Prop} (hgd : o.guard = none) (s x : Operand) (t : TypeId)
    (ho : o.op = .call { callee := .builtin .append, args := #[s, x], argTypes := #[t, t] })
    (lo : Nat) (e : TypeId) (z : Value) (sz bytes : Nat) (ht : P.underlying t = some (.slice e)) (hinfo : (P.info? e).map (fun i => (i.zero, i.size, i.bytes)) = some (some z, sz, bytes))
    (hzs : z.cells.size = sz) (hsz : 0 < sz)
    (v : Value) (xs ys : List α) (cells : α → List Value) (hl : ∀ y, (cells y).length = sz) (h1 : ∀ y, ∀ u ∈ cells y, u.oneCell' = true) (hs : a.eval s = v) (hacc : Acc w lo e sz v xs cells) (A : Option Addr) (n c : Nat) (hx : a.eval x = .slice A n c) (hR : Rd w A n sz ys cells)
    (h63 : xs.length + n ≤ 4294967296) (hby : bytes ≤ 1024) (hlo : lo ≤ w.heap.size)
    (h : ∀ v' w', Acc w' lo e sz v' (xs ++ ys) cells → w.grownBy w' v.ownBlock → (v'.ownBlock = v.ownBlock ∨ v'.ownBlock = some w.heap.size) → wpList P ops Q rest (a.put o.dst v') w') :
    wpList P ops Q (o :: rest) a w := by
  obtain ⟨i, hi, hzz⟩ := Option.map_eq_some_iff.1 hinfo
  simp only [Prod.mk.injEq] at hzz
  obtain ⟨hz, hsi, hbi⟩ := hzz
  have hlen := hR.len
  cases A with
  | none =>
    have hn0 : n = 0 := by
      rcases Nat.eq_zero_or_pos n with e1 | e1
      · exact e1
      · obtain ⟨b, off, x, e2, _⟩ := hR.at_ e1
        cases e2
    subst hn0
    have hy : ys = [] := List.eq_nil_of_length_eq_zero hlen
    subst hy
    refine wpList_plain hgd fun K hK => ?_
    have hrun := run_append_nilG (P := P) (w := w) lo t o.type e i sz c ht hi v _ _ hacc
    unfold Oper.wp
    simp [execOp, ho, resolve, invoke, builtin, hs, hx, hrun, Result.andThen]
    refine hK _ _ (h v w (by simpa using hacc) (World.grownBy.refl _ _) (.inl rfl))
  | some ad =>
    have hb2 : (xs.length + n) * bytes ≤ 140737488355328 := by
      have : (xs.length + n) * bytes ≤ 4294967296 * 1024 := Nat.mul_le_mul h63 hby
      omega
    refine wpList_append_own_at w hgd s x t ho lo e i z sz bytes ht hi hz hsi hbi hzs hsz v xs.length (xs.flatMap cells) hs hacc ad n c (ys.flatMap cells) hx ?_ ?_ ?_ (by unfold maxLen; omega) hb2 hlo ?_
    · rw [flat_len hl, hlen]
    · intro j u hu
      obtain ⟨i', y, k, hy, hk, rfl⟩ := flat_inv hl hu
      have hj : i' < n := by rw [← hlen]; exact (List.getElem?_eq_some_iff.1 hy).1
      obtain ⟨b, off, x, e2, _, hx', hc⟩ := hR.at_ hj
      injection e2 with e2
      subst e2
      rw [hy] at hx'
      injection hx' with hx'
      subst hx'
      rw [add_form]
      exact hc k u hk
    · intro u hu
      obtain ⟨y, _, hy⟩ := List.mem_flatMap.1 hu
      exact h1 y u hy
    · intro v' w' hown hgrow _ hat
      refine h v' w' ?_ hgrow hat
      show w'.ownsRow lo e sz v' (xs ++ ys).length ((xs ++ ys).flatMap cells)
      rw [List.length_append, hlen, List.flatMap_append]
      exact hown

end Go.Proofs.Ytmjdgplkcocgmaa
