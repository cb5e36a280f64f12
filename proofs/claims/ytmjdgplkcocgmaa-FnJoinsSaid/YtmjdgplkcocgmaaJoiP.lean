/-
  The joins of a whole layout, plain.
-/
import Derived.Test.YtmjdgplkcocgmaaJoiA
import Derived.Test.YtmjdgplkcocgmaaZPlain
set_option linter.unusedVariables false
namespace Go.Proofs.Ytmjdgplkcocgmaa

def joinsOf (l : Lay) : List Join := (joinsL l (iota l.ps.length) l.ps.length).1
theorem joinsOf_no {l : Lay} (h : canSew l = false) : joinsOf l = [] := by
  unfold joinsOf
  rw [joins_no h]
theorem joinsOf_at {l : Lay} {n : Nat} (h : l.ps.length = n) : joinsOf l = (joinsL l (iota n) n).1 := by
  subst h
  rfl
theorem joinsOf_few {l : Lay} (h : 1 ≤ l.ps.length) : (joinsOf l).length + 1 ≤ l.ps.length := joinsL_len l _ _ h

end Go.Proofs.Ytmjdgplkcocgmaa
