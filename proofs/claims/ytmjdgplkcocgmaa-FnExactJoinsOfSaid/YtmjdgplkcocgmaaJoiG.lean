/-
  The joins of a layout, both sides, as the law asks for them.
-/
import Derived.Test.YtmjdgplkcocgmaaJoiF
set_option linter.unusedVariables false
namespace Go.Proofs.Ytmjdgplkcocgmaa
open Go.RowKit

theorem joinsOf_small (w h : Int) (ps : List Patch) : (joinsOf ⟨w, h, ps⟩).length ≤ 12 := by
  cases hs : canSew ⟨w, h, ps⟩ with
  | false => rw [joinsOf_no hs]; exact Nat.zero_le _
  | true =>
    have hl : layoutOk w h ps = true := by
      unfold canSew at hs
      rw [Bool.and_eq_true] at hs
      exact hs.1
    have hn := (layout_parts hl).2.2.1
    have h1 := joinsOf_few (l := ⟨w, h, ps⟩) hn.1
    simp only at h1
    omega
def JMade (W : World) (l : Lay) (e : Ending) (w' : World) : Prop :=
  ∃ A c, e = .returned (.tuple #[.slice A (joinsOf l).length c, .bool (canSew l)]) ∧ (joinsOf l).length ≤ c ∧ Own w' W.heap.size w'.heap.size A (joinsOf l).length 3 (joinsOf l) joinC ∧ Below W.heap.size W w'
theorem jmade_of {W w' : World} {l : Lay} {e : Ending} (h : JOut W l e w') : JMade W l e w' := by
  obtain ⟨J, p, q, rfl, hpq, hO, hb⟩ := h
  have hl := hO.len
  subst hl
  exact ⟨J, q, rfl, hpq, hO, hb⟩
theorem joinsS_made (w h : Int) (A : Option Addr) (n c : Nat) (ps : List Patch) (W : World) (hR : Rd W A n 5 ps patchC) (hN : n ≤ 1048576) :
    Calls Try.prog 48 #[.agg #[.int .i64 w, .int .i64 h, .slice A n c]] W (JMade W ⟨w, h, ps⟩) := (joinsOfS_any w h A n c ps W hR hN).mono fun _ _ h => jmade_of h
theorem joinsI_made (w h : Int) (A : Option Addr) (n c : Nat) (ps : List Patch) (W : World) (hR : Rd W A n 5 ps patchC) (hN : n ≤ 1048576) :
    Calls Try.prog 49 #[.agg #[.int .i64 w, .int .i64 h, .slice A n c]] W (JMade W ⟨w, h, ps⟩) := (joinsOfI_any w h A n c ps W hR hN).mono fun _ _ h => jmade_of h

end Go.Proofs.Ytmjdgplkcocgmaa
