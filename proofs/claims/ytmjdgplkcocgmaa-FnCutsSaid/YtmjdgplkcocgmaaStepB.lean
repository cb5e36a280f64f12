/-
  append of a whole slice at a step of a region that draws its order.
-/
import Derived.Test.YtmjdgplkcocgmaaAccManyG
import Derived.Test.YtmjdgplkcocgmaaAccStep
set_option linter.unusedVariables false
namespace Go.Proofs.Ytmjdgplkcocgmaa
open Go.RowKit

theorem step_accs {α : Type} {P : Program} {w : World} {ops : Array Oper} {o : Oper} {a : Act} {K : Act → World → Prop} {Q : Exit → Act → World → Prop} {E : Prop} (hgd : o.guard = none) (s x : Operand) (t : TypeId)
    (ho : o.op = .call { callee := .builtin .append, args := #[s, x], argTypes := #[t, t] })
    (lo : Nat) (e : TypeId) (z : Value) (sz bytes : Nat) (ht : P.underlying t = some (.slice e)) (hinfo : (P.info? e).map (fun i => (i.zero, i.size, i.bytes)) = some (some z, sz, bytes))
    (hzs : z.cells.size = sz) (hsz : 0 < sz) (v : Value) (xs ys : List α) (cells : α → List Value) (hl : ∀ y, (cells y).length = sz) (h1 : ∀ y, ∀ u ∈ cells y, u.oneCell' = true) (hs : a.eval s = v) (hacc : Acc w lo e sz v xs cells)
    (ad : Addr) (n c : Nat) (hx : a.eval x = .slice (some ad) n c) (hR : Rd w (some ad) n sz ys cells) (hn : 0 < n) (h63 : xs.length + n ≤ 4294967296) (hby : bytes ≤ 1024) (hlo : lo ≤ w.heap.size) (H : Nat) (hH : w.heap.size = H)
    (h : ∀ A' c' w', Acc w' lo e sz (.slice A' (xs.length + n) c') (xs ++ ys) cells → w.grownBy w' v.ownBlock → K (a.put o.dst (.slice A' (xs.length + n) c')) w') :
    if Region.wanted o (yielded ops a.tmps) = true then Oper.wp P o a w K Q else E := by
  obtain ⟨i, hi, hzz⟩ := Option.map_eq_some_iff.1 hinfo
  simp only [Prod.mk.injEq] at hzz
  obtain ⟨hz, hsi, hbi⟩ := hzz
  have hlen := hR.len
  refine step_append_lies (w := w) hgd s x t ho lo e i z sz bytes ht hi hz hsi hbi hzs hsz v xs.length (xs.flatMap cells) hs hacc ad n c (ys.flatMap cells) hx (by rw [flat_len hl, hlen]) ?_ ?_ hn (by unfold maxLen; omega) ?_ hlo H hH ?_
  · intro j u hu
    obtain ⟨i', y, k, hy, hk, rfl⟩ := flat_inv hl hu
    have hj : i' < n := by rw [← hlen]; exact (List.getElem?_eq_some_iff.1 hy).1
    obtain ⟨b, off, x, e2, _, hx', hc⟩ := hR.at_ hj
    injection e2 with e2
    subst e2
    rw [hy] at hx'
    injection hx' with hx'
    subst hx'
    rw [add_form]
    exact hc k u hk
  · intro u hu
    obtain ⟨y, _, hy⟩ := List.mem_flatMap.1 hu
    exact h1 y u hy
  · have : (xs.length + n) * bytes ≤ 4294967296 * 1024 := Nat.mul_le_mul h63 hby
    omega
  · intro g cap w' hown hgrow _ _
    refine h (some ⟨g, 0, none⟩) cap w' ?_ hgrow
    show w'.ownsRow lo e sz _ (xs ++ ys).length ((xs ++ ys).flatMap cells)
    rw [List.length_append, hlen, List.flatMap_append]
    exact hown

end Go.Proofs.Ytmjdgplkcocgmaa
