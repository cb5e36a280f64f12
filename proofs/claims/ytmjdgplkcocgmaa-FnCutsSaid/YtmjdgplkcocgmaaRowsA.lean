/-
  Rows that the call may each append to; no two of them lie in one block.
-/
import Derived.Test.YtmjdgplkcocgmaaAccSSG
import Derived.Laws.OwnMore
set_option linter.unusedVariables false
namespace Go.Proofs.Ytmjdgplkcocgmaa
open Go.RowKit

def hdV (h : Hd) : Value := .slice h.A h.n h.c
/-- The values v and d do not lie in one block. -/
def Dis (v d : Value) : Prop := ∀ g, v.ownBlock = some g → d.ownBlock ≠ some g
theorem Dis.symm {v d : Value} (h : Dis v d) : Dis d v := fun g hg e => h g e hg
theorem Dis.left {v v1 d : Value} {g : Nat} (h : Dis v d) (hat : v1.ownBlock = v.ownBlock ∨ v1.ownBlock = some g) (hd : ∀ k, d.ownBlock = some k → k < g) : Dis v1 d := by
  intro k hk e
  rcases hat with h1 | h1
  · exact h k (h1 ▸ hk) e
  · rw [h1] at hk
    injection hk with hk
    have := hd k e
    omega
theorem Dis.right {v d d1 : Value} {g : Nat} (h : Dis v d) (hat : d1.ownBlock = d.ownBlock ∨ d1.ownBlock = some g) (hd : ∀ k, v.ownBlock = some k → k < g) : Dis v d1 := (h.symm.left hat hd).symm
theorem Dis.new {v d : Value} {g : Nat} (hv : ∀ k, v.ownBlock = some k → k < g) (hd : d.ownBlock = some g) : Dis v d := by
  intro k hk e
  rw [hd] at e
  injection e with e
  have := hv k hk
  omega
def DisAll (v : Value) (hs : List Hd) : Prop := ∀ (i : Nat) (h : Hd), hs[i]? = some h → Dis v (hdV h)

section
variable {α : Type} {w w' : World} {lo : Nat} {e : TypeId} {hs : List Hd} {rows : List (List α)} {cells : α → List Value}

def RowsA (w : World) (lo : Nat) (e : TypeId) (hs : List Hd) (rows : List (List α)) (cells : α → List Value) : Prop :=
  hs.length = rows.length ∧ (∀ (i : Nat) (h : Hd) (r : List α), hs[i]? = some h → rows[i]? = some r → h.n = r.length ∧ Acc w lo e 1 (hdV h) r cells) ∧
    ∀ (i j : Nat) (h k : Hd), hs[i]? = some h → hs[j]? = some k → i ≠ j → Dis (hdV h) (hdV k)
theorem push_look {x y : α} {l : List α} {i : Nat} (h : (l ++ [x])[i]? = some y) : l[i]? = some y ∨ (i = l.length ∧ y = x) := by
  by_cases hl : i < l.length
  · rw [List.getElem?_append_left hl] at h
    exact .inl h
  · have hlt := (List.getElem?_eq_some_iff.1 h).1
    rw [List.length_append, List.length_singleton] at hlt
    obtain rfl : i = l.length := by omega
    rw [List.getElem?_append_right (Nat.le_refl _), Nat.sub_self] at h
    simp at h
    exact .inr ⟨rfl, h.symm⟩
theorem RowsA.nil (w : World) (lo : Nat) (e : TypeId) (cells : α → List Value) : RowsA w lo e [] [] cells := ⟨rfl, fun i h r hk => by simp at hk, fun i j h k hk => by simp at hk⟩
theorem DisAll.nil (v : Value) : DisAll v [] := fun i h hk => by simp at hk
theorem RowsA.row (h : RowsA w lo e hs rows cells) {i : Nat} {x : Hd} (hx : hs[i]? = some x) : ∃ r, rows[i]? = some r ∧ x.n = r.length ∧ Acc w lo e 1 (hdV x) r cells := by
  have hr : rows[i]? = some (rows[i]'(by rw [← h.1]; exact (List.getElem?_eq_some_iff.1 hx).1)) := List.getElem?_eq_getElem _
  exact ⟨_, hr, h.2.1 i x _ hx hr⟩
theorem RowsA.lt (h : RowsA w lo e hs rows cells) {i : Nat} {x : Hd} (hx : hs[i]? = some x) : ∀ k, (hdV x).ownBlock = some k → k < w.heap.size := fun k hk => by
  obtain ⟨r, _, _, ha⟩ := h.row hx
  exact (ha.row hk).2
theorem RowsA.below (h : RowsA w lo e hs rows cells) (hb : Below w.heap.size w w') : RowsA w' lo e hs rows cells :=
  ⟨h.1, fun i x r hx hr => ⟨(h.2.1 i x r hx hr).1, (h.2.1 i x r hx hr).2.below hb⟩, h.2.2⟩
theorem RowsA.kept (h : RowsA w lo e hs rows cells) {v : Value} (hg : w.grownBy w' v.ownBlock) (hd : DisAll v hs) : RowsA w' lo e hs rows cells :=
  ⟨h.1, fun i x r hx hr => ⟨(h.2.1 i x r hx hr).1, (h.2.1 i x r hx hr).2.kept hg fun g hg' e' => hd i x hx g e' hg'⟩, h.2.2⟩
theorem RowsA.push (h : RowsA w lo e hs rows cells) {x : Hd} {r : List α} (hn : x.n = r.length) (ha : Acc w lo e 1 (hdV x) r cells) (hd : DisAll (hdV x) hs) : RowsA w lo e (hs ++ [x]) (rows ++ [r]) cells := by
  refine ⟨by simp [h.1], fun i y s hy hs' => ?_, fun i j y z hy hz hne => ?_⟩
  · rcases push_look hy with h1 | ⟨rfl, rfl⟩
    · have hi := (List.getElem?_eq_some_iff.1 h1).1
      rw [List.getElem?_append_left (by rw [← h.1]; exact hi)] at hs'
      exact h.2.1 i y s h1 hs'
    · rw [h.1, List.getElem?_append_right (Nat.le_refl _), Nat.sub_self] at hs'
      simp at hs'
      subst hs'
      exact ⟨hn, ha⟩
  · rcases push_look hy with h1 | ⟨h1, rfl⟩ <;> rcases push_look hz with h2 | ⟨h2, rfl⟩
    · exact h.2.2 i j y z h1 h2 hne
    · exact (hd i y h1).symm
    · exact hd j z h2
    · omega
theorem DisAll.push {v : Value} (h : DisAll v hs) {x : Hd} (hx : Dis v (hdV x)) : DisAll v (hs ++ [x]) := fun i y hy => by
  rcases push_look hy with h1 | ⟨rfl, rfl⟩
  · exact h i y h1
  · exact hx
theorem DisAll.next {v v1 : Value} {g : Nat} (h : DisAll v hs) (hat : v1.ownBlock = v.ownBlock ∨ v1.ownBlock = some g) (hd : ∀ (i : Nat) (x : Hd), hs[i]? = some x → ∀ k, (hdV x).ownBlock = some k → k < g) : DisAll v1 hs :=
  fun i x hx => (h i x hx).left hat (hd i x hx)
theorem set_look {l : List α} {p i : Nat} {x y : α} (h : (l.set p x)[i]? = some y) : (i ≠ p ∧ l[i]? = some y) ∨ (i = p ∧ y = x) := by
  rw [List.getElem?_set] at h
  by_cases e : p = i
  · subst e
    rw [if_pos rfl] at h
    split at h
    · injection h with h
      exact .inr ⟨rfl, h.symm⟩
    · cases h
  · rw [if_neg e] at h
    exact .inl ⟨fun h' => e h'.symm, h⟩
theorem RowsA.set (h : RowsA w lo e hs rows cells) {p : Nat} {x x' : Hd} {r' : List α} (hx : hs[p]? = some x) (hg : w.grownBy w' (hdV x).ownBlock) (hn : x'.n = r'.length) (ha : Acc w' lo e 1 (hdV x') r' cells) {G : Nat}
    (hat : (hdV x').ownBlock = (hdV x).ownBlock ∨ (hdV x').ownBlock = some G) (hG : w.heap.size ≤ G) : RowsA w' lo e (hs.set p x') (rows.set p r') cells := by
  have hlt : ∀ (i : Nat) (y : Hd), hs[i]? = some y → ∀ k, (hdV y).ownBlock = some k → k < G := fun i y hy k hk => by have := h.lt hy k hk; omega
  refine ⟨by simp [h.1], fun i y s hy hs' => ?_, fun i j y z hy hz hne => ?_⟩
  · rcases set_look hy with ⟨h1, h2⟩ | ⟨rfl, rfl⟩
    · rw [List.getElem?_set, if_neg (fun e => h1 e.symm)] at hs'
      obtain ⟨h3, h4⟩ := h.2.1 i y s h2 hs'
      exact ⟨h3, h4.kept hg fun g hg' e' => h.2.2 p i x y hx h2 (fun e => h1 e.symm) g e' hg'⟩
    · rcases set_look hs' with ⟨h1, _⟩ | ⟨_, rfl⟩
      · exact absurd rfl h1
      · exact ⟨hn, ha⟩
  · rcases set_look hy with ⟨h1, h2⟩ | ⟨rfl, rfl⟩ <;> rcases set_look hz with ⟨h3, h4⟩ | ⟨h3, rfl⟩
    · exact h.2.2 i j y z h2 h4 hne
    · subst h3
      exact (h.2.2 i j y x h2 hx hne).right hat (hlt i y h2)
    · exact (h.2.2 i j x z hx h4 hne).left hat (hlt j z h4)
    · omega
theorem DisAll.set {v : Value} (h : DisAll v hs) {p : Nat} {x' : Hd} (hx : Dis v (hdV x')) : DisAll v (hs.set p x') := fun i y hy => by
  rcases set_look hy with ⟨_, h1⟩ | ⟨_, rfl⟩
  · exact h i y h1
  · exact hx
theorem RowsA.rowsP (h : RowsA w lo e hs rows cells) (hl : ∀ y, (cells y).length = 1) : RowsP w lo w.heap.size hs rows cells := by
  refine ⟨h.1, fun i x r hx hr => ?_, fun i j x y a b hx hy hne ha hb _ _ e => ?_⟩
  · obtain ⟨h1, h2⟩ := h.2.1 i x r hx hr
    obtain ⟨A, c, h3, h4, h5⟩ := h2.own hl
    unfold hdV at h3
    injection h3 with h3 h6 h7
    rw [h3, h1, h7]
    exact ⟨h4, h5⟩
  · refine h.2.2 i j x y hx hy hne a.block ?_ ?_
    · unfold hdV; rw [ha]; rfl
    · unfold hdV; rw [hb, e]; rfl
theorem DisAll.apart {v : Value} (h : DisAll v hs) : Apart v hs := fun g hg i x a hx ha _ e => h i x hx g hg (by unfold hdV; rw [ha, ← e]; rfl)
end

end Go.Proofs.Ytmjdgplkcocgmaa
