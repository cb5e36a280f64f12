/-
  Contracts over units: two units joined.
-/
import Derived.Test.YtmjdgplkcocgmaaUniU
import Derived.Test.YtmjdgplkcocgmaaUniD
set_option linter.unusedVariables false
namespace Go.Proofs.Ytmjdgplkcocgmaa
open Go.RowKit

theorem joined_any (up : Bool) (ja jb x y p q r x' y' p' q' r' : Int) (W : World) (h1 : 0 ≤ x ∧ x ≤ 100) (h2 : 0 ≤ y ∧ y ≤ 100) (h3 : 0 ≤ p ∧ p ≤ 100) (h4 : 0 ≤ q ∧ q ≤ 100) (h5 : 0 ≤ p' ∧ p' ≤ 100) (h6 : 0 ≤ q' ∧ q' ≤ 100) :
    Calls Try.prog 105 #[.agg #[.bool up, .int .i64 ja, .int .i64 jb], .agg #[.int .i64 x, .int .i64 y, .int .i64 p, .int .i64 q, .int .i64 r], .agg #[.int .i64 x', .int .i64 y', .int .i64 p', .int .i64 q', .int .i64 r']] W
      fun e w' => (∃ s : Int, ∃ z : Patch, e = .returned (.tuple #[.agg #[.int .i64 z.X, .int .i64 z.Y, .int .i64 z.W, .int .i64 z.H, .int .i64 z.Color], .int .i64 s, .bool (fitJoin ⟨up, ja, jb⟩ ⟨x, y, p, q, r⟩ ⟨x', y', p', q', r'⟩)]) ∧ z = boxOf ⟨up, ja, jb⟩ ⟨x, y, p, q, r⟩ ⟨x', y', p', q', r'⟩ ∧ s = seamOf ⟨up, ja, jb⟩ ⟨x, y, p, q, r⟩) ∧ Below W.heap.size W w' := by
  cases up
  · exact joined_down _ _ _ _ _ _ _ _ _ _ _ _ _ h1 h2 h3 h4 h5 h6
  · exact joined_up _ _ _ _ _ _ _ _ _ _ _ _ _ h1 h2 h3 h4 h5 h6

end Go.Proofs.Ytmjdgplkcocgmaa
