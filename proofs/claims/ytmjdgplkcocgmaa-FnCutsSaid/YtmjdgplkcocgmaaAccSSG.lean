/-
  A slice of slices that the call itself builds, a row at a time.
-/
import Derived.Test.YtmjdgplkcocgmaaSS
set_option linter.unusedVariables false
namespace Go.Proofs.Ytmjdgplkcocgmaa
open Go.RowKit

section
variable {α : Type} {w w' : World} {lo hi : Nat} {rows : List (List α)} {cells : α → List Value} {hs : List Hd}

/-- The block of the value v holds none of the rows. -/
def Apart (v : Value) (hs : List Hd) : Prop := ∀ g, v.ownBlock = some g → Off g hs
theorem RowsP.app {v : Value} (h : RowsP w lo hi hs rows cells) (hg : w.grownBy w' v.ownBlock) (hd : Apart v hs) : RowsP w' lo hi hs rows cells :=
  ⟨h.1, fun i k r hk hr => ⟨(h.2.1 i k r hk hr).1, by
    obtain ⟨hl, ho⟩ := (h.2.1 i k r hk hr).2
    refine ⟨hl, fun hn => ?_⟩
    obtain ⟨g, T, e, h1, h2, hp⟩ := ho hn
    exact ⟨g, T, e, h1, h2, hp.block (hg.block g hp.lt (fun e' => hd g e'.symm i k ⟨g, 0, none⟩ hk e hn rfl))⟩⟩, h.2.2⟩
theorem Apart.push {v : Value} {mid hi' : Nat} (h : Apart v hs) {x : Hd} {r : List α} (ho : Own w mid hi' x.A x.n 1 r cells) (hv : ∀ g, v.ownBlock = some g → g < mid) : Apart v (hs ++ [x]) :=
  fun g hg => (h g hg).push ho (.inl (hv g hg))
theorem Apart.next {v v' : Value} {g : Nat} (h : Apart v hs) (hat : v'.ownBlock = v.ownBlock ∨ v'.ownBlock = some g) (hr : RowsP w lo hi hs rows cells) (hg : hi ≤ g) : Apart v' hs := by
  intro k hk
  rcases hat with e | e
  · exact h k (e ▸ hk)
  · rw [e] at hk
    injection hk with hk
    subst hk
    exact hr.off_of (.inr hg)
theorem Apart.nil (v : Value) : Apart v [] := fun g _ => Off.nil g
theorem Acc.madeSS {W : World} {e : TypeId} {v : Value} (h : Acc w' W.heap.size e 1 v hs hdC) (hr : RowsP w' W.heap.size w'.heap.size hs rows cells) (hd : Apart v hs) (hb : Below W.heap.size W w') {n : Nat} (hn : rows.length = n) : MadeSS W n rows cells (.returned v) w' := by
  have hl : hs.length = n := by rw [hr.1, hn]
  obtain ⟨A, c, rfl, hc, ho⟩ := h.own hdC_len
  rw [hl] at hc ho ⊢
  refine ⟨A, c, rfl, hc, ⟨hn, hs, ho, hr, fun a ha hp => ?_⟩, hb⟩
  obtain ⟨g, T, e1, _⟩ := ho.2 hp
  rw [e1] at ha
  injection ha with ha
  subst ha
  subst e1
  exact hd g rfl
end

end Go.Proofs.Ytmjdgplkcocgmaa
