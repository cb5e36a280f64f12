/-
  Lists of Line: how the law file copies, compares, marks and asks them.
-/
import Derived.Test.YtkbpehklfjnjjaaRows
import Derived.Test.YtkbpehklfjnjjaaPlainT
import Derived.Test.YtkbpehklfjnjjaaPlainA
import Derived.Test.YtkbpehklfjnjjaaBase
set_option linter.unusedVariables false
namespace Go.Proofs.Ytkbpehklfjnjjaa
open Go.RowKit

def lineC (x : Line) : List Value := [.int .i64 x.From, .int .i64 x.To]

theorem Rd.line {w w' : World} {A : Option Addr} {n : Nat} {xs : List Line} (h : Rd w A n 2 xs lineC) {k : Nat} (hk : k < n) (hb : Below w.heap.size w w') :
    ∃ b off x, A = some ⟨b, off, none⟩ ∧ b < w.heap.size ∧ xs[k]? = some x ∧ w'.cell? ⟨b, off + k * 2, none⟩ = some (.int .i64 x.From) ∧ w'.cell? ⟨b, off + k * 2 + 1, none⟩ = some (.int .i64 x.To) := by
  obtain ⟨b, off, x, e, hlt, hx, hc⟩ := h.at_ hk
  have hw : ∀ j u, (lineC x)[j]? = some u → w'.cell? ⟨b, off + (k * 2 + j), none⟩ = some u := fun j u hu => (hb.cell (p := ⟨b, _, none⟩) hlt).trans (hc j u hu)
  exact ⟨b, off, x, e, hlt, hx, hw 0 _ rfl, hw 1 _ rfl⟩

theorem lineC_len (x : Line) : (lineC x).length = 2 := rfl

def markLineAt (k : Int) (i : Nat) : Line := ⟨k + 2 * (i : Int), k + 2 * (i : Int) + 1⟩
def marksLineS (k : Int) (n : Nat) : List Line := (List.range n).map (markLineAt k)
theorem marksLineS_len (k : Int) (n : Nat) : (marksLineS k n).length = n := by simp [marksLineS]
theorem marksLineS_at {k : Int} {n i : Nat} (h : i < n) : (marksLineS k n)[i]? = some (markLineAt k i) := by simp [marksLineS, h]

end Go.Proofs.Ytkbpehklfjnjjaa
