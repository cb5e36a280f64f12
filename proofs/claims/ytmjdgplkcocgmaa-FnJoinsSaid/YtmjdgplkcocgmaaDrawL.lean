/-
  Contracts of the drawing of layouts: the sample layout.
-/
import Derived.Test.YtmjdgplkcocgmaaDrawA
import Derived.Test.YtmjdgplkcocgmaaPlainK
import Derived.Test.YtmjdgplkcocgmaaKnoF
set_option linter.unusedVariables false
set_option linter.unusedSimpArgs false
namespace Go.Proofs.Ytmjdgplkcocgmaa
open Go.RowKit

theorem Acc.lit {α : Type} (w : World) (lo : Nat) (e : TypeId) (sz : Nat) (xs : List α) (cells : α → List Value) (cs : Array Value) (hcs : cs.toList = xs.flatMap cells) (h : lo ≤ w.heap.size) (hl : xs.length ≤ maxLen) (hs : cs.size = xs.length * sz) {g : Nat} (hg : g = w.heap.size) :
    Acc (w.alloc (.cells cs e)) lo e sz (.slice (some ⟨g, 0, none⟩) xs.length xs.length) xs cells := by
  subst hg
  have := World.ownsRow_lit (base := lo) (e := e) (size := sz) w cs xs.length h hl hs
  unfold Acc
  rw [← hcs]
  simpa using this

def SampleOut (W : World) (e : Ending) (w' : World) : Prop :=
  ∃ g : Nat, e = .returned (.agg #[.int .i64 3, .int .i64 3, .slice (some ⟨g, 0, none⟩) 5 5]) ∧ Acc w' W.heap.size 44 5 (.slice (some ⟨g, 0, none⟩) 5 5) sampleP patchC ∧ Below W.heap.size W w'
theorem sampleS_any (W : World) : Calls Try.prog 104 #[] W (SampleOut W) := by
  go_enter Try.func104, Try.ntmps104
  go_wp2
  have hz : W.heap.size + 1 = (W.alloc (.cells #[.int .i64 3, .int .i64 3, .slice (some ⟨W.heap.size + 1, 0, none⟩) 5 5] 30)).heap.size := by simp
  have hA := Acc.lit (W.alloc (.cells #[.int .i64 3, .int .i64 3, .slice (some ⟨W.heap.size + 1, 0, none⟩) 5 5] 30)) W.heap.size 44 5 sampleP patchC
    #[.int .i64 0, .int .i64 0, .int .i64 2, .int .i64 1, .int .i64 0, .int .i64 2, .int .i64 0, .int .i64 1, .int .i64 2, .int .i64 1, .int .i64 1, .int .i64 2, .int .i64 2, .int .i64 1, .int .i64 2, .int .i64 0, .int .i64 1, .int .i64 1, .int .i64 2, .int .i64 3, .int .i64 1, .int .i64 1, .int .i64 1, .int .i64 1, .int .i64 4] rfl (by rw [← hz]; omega) (by decide) rfl hz
  refine bodyPost_ret (v := .agg #[.int .i64 3, .int .i64 3, .slice (some ⟨W.heap.size + 1, 0, none⟩) 5 5]) (by simp [results, Try.results104, go_sem]) rfl ⟨W.heap.size + 1, rfl, hA, ?_⟩
  exact ((Below.refl _ _).alloc (Nat.le_refl _) _).alloc (by simp) _

end Go.Proofs.Ytmjdgplkcocgmaa
