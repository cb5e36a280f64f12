/-
  append of one element at a step of a region that draws its order.
-/
import Derived.Test.YtmjdgplkcocgmaaAcc
import Derived.Deep.AppendLies
import Derived.Deep.RegionHeld3
set_option linter.unusedVariables false
namespace Go.Proofs.Ytmjdgplkcocgmaa
open Go.RowKit

theorem cell_keep {w : World} {a : Addr} {u : Value} (h : w.cell? a = some u) (o : Obj) : ((w.alloc o).drew).cell? a = some u := keepcell h ((Below.refl _ _).alloc (Nat.le_refl _) o).drew
theorem cell_far {w w1 w2 : World} {a : Addr} {u : Value} {o : Obj} {row : Option Nat} (hw : w1 = (w.alloc o).drew) (hg : w1.grownBy w2 row) (h : w.cell? a = some u) (hne : some a.block ≠ row) : w2.cell? a = some u := by
  subst hw
  rw [hg.cell_far a (Nat.lt_of_lt_of_le (block_lt_of_cell h) (by simp [World.drew])) hne]
  exact cell_keep h o
theorem cell_same {w w1 w2 : World} {g j : Nat} {u : Value} {o : Obj} (hw : w1 = (w.alloc o).drew) (hk : w2.cell? ⟨g, j, none⟩ = w1.cell? ⟨g, j, none⟩) (h : w.cell? ⟨g, j, none⟩ = some u) : w2.cell? ⟨g, j, none⟩ = some u := by
  subst hw
  rw [hk]
  exact cell_keep h o

/-- What an append leaves in the old row. -/
theorem append_keeps {P : Program} {w w' : World} {v' : Value} {t ty e : TypeId} {i : TypeInfo} {z : Value} {lo sz n : Nat} {xs : List Value} {v : Value} (ht : P.underlying t = some (.slice e)) (hi : P.info? e = some i) (hz : i.zero = some z) (hsize : i.size = sz)
    (hown : w.ownsRow lo e sz v n xs) (a : Addr) (m c : Nat) (news : List Value) (hl : news.length = m * sz) (hnews : ∀ j u, news[j]? = some u → w.cell? (a.add j) = some u) (h1 : ∀ u ∈ news, u.oneCell' = true)
    (h63 : n + m ≤ maxLen) (hbytes : (n + m) * i.bytes ≤ 140737488355328) (hr : (Builtin.append_ #[t, t] ty #[v, .slice (some a) m c]).run P w = .ok v' w') :
    ∀ g, v.ownBlock = some g → ∀ j, j < n * sz → w'.cell? ⟨g, j, none⟩ = w.cell? ⟨g, j, none⟩ := by
  subst hsize
  intro g hg j hj
  rcases hown.2 with ⟨rfl, rfl⟩ | ⟨g', cap, cur, rfl, hbg, hgg, hnc, hcm, hcs, htake⟩
  · cases hg
  · have : g' = g := by simpa [Value.ownBlock] using hg
    subst this
    have hsmall : n + m ≤ 9223372036854775807 := by simp only [maxLen] at h63; omega
    by_cases hroom : n + m ≤ cap
    · have hfit : n * i.size + news.length ≤ cur.size := by rw [hl, hcs, ← Nat.add_mul]; exact Nat.mul_le_mul_right _ hroom
      have hr2 := run_append_room (P := P) w t ty e i ht hi g' n cap cur hgg a m c news hl hnews h1 hroom hfit
      rw [hr2] at hr
      injection hr with _ hw
      subst hw
      rw [cell_of_row _ _ _ _ _ _ (setRow_heap w g' cur _ e _ hgg), cell_of_row _ _ _ _ _ _ hgg]
      have hlt : j < (cur.toList.take (n * i.size)).length := by rw [List.length_take, Array.length_toList]; omega
      rw [List.getElem?_toArray, List.append_assoc, List.getElem?_append_left hlt, List.getElem?_take, if_pos hj]
      simp
    · have holds : ∀ j u, xs[j]? = some u → w.cell? ((⟨g', 0, none⟩ : Addr).add j) = some u := hown.cells (g := g') rfl
      have hr2 := run_append_grow (P := P) w t ty e i z ht hi hz ⟨g', 0, none⟩ n cap xs hown.1 holds a m c news hl hnews (by omega) (by omega) (growslice_fits (by omega) hbytes)
      rw [hr2] at hr
      injection hr with _ hw
      subst hw
      exact World.cell?_of_block (a := ⟨g', j, none⟩) (heap_alloc_old w.drew _ (heap_lt hgg))

theorem run_acc1 {α : Type} {P : Program} {w : World} (t ty : TypeId) (lo : Nat) (e : TypeId) (z : Value) (sz bytes : Nat) (ht : P.underlying t = some (.slice e)) (hinfo : (P.info? e).map (fun i => (i.zero, i.size, i.bytes)) = some (some z, sz, bytes))
    (hzs : z.cells.size = sz) (hsz : 0 < sz) (v : Value) (xs : List α) (cells : α → List Value) (y : α) (hacc : Acc w lo e sz v xs cells)
    (b : Nat) (cs : Array Value) (T' : TypeId) (fr : Nat × Nat) (hb : w.heap[b]? = some (.cells cs T' fr)) (hcs : cs.toList = cells y) (hl : (cells y).length = sz) (h1 : ∀ u ∈ cells y, u.oneCell' = true)
    (h63 : xs.length + 1 ≤ 4294967296) (hby : bytes ≤ 1024) (hlo : lo ≤ w.heap.size) :
    ∃ v' w', (Builtin.append_ #[t, t] ty #[v, .slice (some ⟨b, 0, none⟩) 1 1]).run P w = .ok v' w' ∧ Acc w' lo e sz v' (xs ++ [y]) cells ∧ w.grownBy w' v.ownBlock ∧ (v'.ownBlock = v.ownBlock ∨ v'.ownBlock = some w.heap.size) ∧
      ∀ g, v.ownBlock = some g → ∀ j, j < xs.length * sz → w'.cell? ⟨g, j, none⟩ = w.cell? ⟨g, j, none⟩ := by
  obtain ⟨i, hi, hzz⟩ := Option.map_eq_some_iff.1 hinfo
  simp only [Prod.mk.injEq] at hzz
  obtain ⟨hz, hsi, hbi⟩ := hzz
  have hnews : ∀ j u, (cells y)[j]? = some u → w.cell? ((⟨b, 0, none⟩ : Addr).add j) = some u := by
    intro j u hu
    rw [add_form, Nat.zero_add]
    have : w.cell? ⟨b, j, none⟩ = cs[j]? := by simp [World.cell?, hb]
    rw [this, ← Array.getElem?_toList, hcs]
    exact hu
  have hbytes : (xs.length + 1) * bytes ≤ 140737488355328 := by
    have : (xs.length + 1) * bytes ≤ 4294967296 * 1024 := Nat.mul_le_mul h63 hby
    omega
  have hm : xs.length + 1 ≤ maxLen := by unfold maxLen; omega
  obtain ⟨v', w', hr, h2, h3, _, h5⟩ := run_append_own_at (P := P) w lo t ty e i z sz bytes ht hi hz hsi hbi hzs hsz v xs.length (xs.flatMap cells) hacc ⟨b, 0, none⟩ 1 1 (cells y) (by omega) hnews h1 hm hbytes hlo
  refine ⟨v', w', hr, ?_, h3, h5, append_keeps ht hi hz hsi hacc ⟨b, 0, none⟩ 1 1 (cells y) (by omega) hnews h1 hm (by rw [hbi]; exact hbytes) hr⟩
  show w'.ownsRow lo e sz _ (xs ++ [y]).length ((xs ++ [y]).flatMap cells)
  simpa using h2

theorem step_acc1 {α : Type} {P : Program} {w : World} {ops : Array Oper} {o : Oper} {a : Act} {K : Act → World → Prop} {Q : Exit → Act → World → Prop} {E : Prop} (hgd : o.guard = none) (s x : Operand) (t : TypeId)
    (ho : o.op = .call { callee := .builtin .append, args := #[s, x], argTypes := #[t, t] })
    (lo : Nat) (e : TypeId) (z : Value) (sz bytes : Nat) (ht : P.underlying t = some (.slice e)) (hinfo : (P.info? e).map (fun i => (i.zero, i.size, i.bytes)) = some (some z, sz, bytes))
    (hzs : z.cells.size = sz) (hsz : 0 < sz) (v : Value) (xs : List α) (cells : α → List Value) (y : α) (hs : a.eval s = v) (hacc : Acc w lo e sz v xs cells)
    (b : Nat) (cs : Array Value) (T' : TypeId) (fr : Nat × Nat) (hb : w.heap[b]? = some (.cells cs T' fr)) (hcs : cs.toList = cells y) (hx : a.eval x = .slice (some ⟨b, 0, none⟩) 1 1) (hl : (cells y).length = sz) (h1 : ∀ u ∈ cells y, u.oneCell' = true)
    (h63 : xs.length + 1 ≤ 4294967296) (hby : bytes ≤ 1024) (hlo : lo ≤ w.heap.size) (H : Nat) (hH : w.heap.size = H)
    (h : ∀ v' w', Acc w' lo e sz v' (xs ++ [y]) cells → w.grownBy w' v.ownBlock → (v'.ownBlock = v.ownBlock ∨ v'.ownBlock = some H) → (∀ g, v.ownBlock = some g → ∀ j, j < xs.length * sz → w'.cell? ⟨g, j, none⟩ = w.cell? ⟨g, j, none⟩) → K (a.put o.dst v') w') :
    if Region.wanted o (yielded ops a.tmps) = true then Oper.wp P o a w K Q else E := by
  obtain ⟨v', w', hr, h2, h3, h4, h5⟩ := run_acc1 (P := P) t o.type lo e z sz bytes ht hinfo hzs hsz v xs cells y hacc b cs T' fr hb hcs hl h1 h63 hby hlo
  rw [if_pos (by simp [Region.wanted, hgd])]
  unfold Oper.wp execOp
  simp only [ho, resolve, invoke, builtin, Sem.run_bind, Sem.run_pure, Result.andThen_ok, List.map_toArray, List.map_cons, List.map_nil, hs, hx, hr]
  exact h v' w' h2 h3 (hH ▸ h4) h5

end Go.Proofs.Ytmjdgplkcocgmaa
