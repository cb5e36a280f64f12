/-
  The first part that can not be cut: how the law file asks after its memory; how long it is.
-/
import Derived.Test.YtmjdgplkcocgmaaKnoI
import Derived.Test.YtmjdgplkcocgmaaKnoJ
import Derived.Test.YtmjdgplkcocgmaaFlatLayout
set_option linter.unusedVariables false
namespace Go.Proofs.Ytmjdgplkcocgmaa
open Go.RowKit

theorem heldLayout_any (a0 a1 : Int) (A : Option Addr) (n c : Nat) (q : Int) (W : World) (h : Rd W A n 5 (marksPatchS q n) patchC) (hn : n ≤ 4194304) (hq : 0 ≤ q) (hq2 : q ≤ 1000000000) :
    Calls Try.prog 47 #[.agg #[.int .i64 a0, .int .i64 a1, .slice A n c], .int .i64 q] W fun e w' => e = .returned (.int .i64 (q + 5 * (n : Int))) ∧ Below W.heap.size W w' := by
  go_enter Try.func47, Try.ntmps47
  go_wp2_with fail
  refine (heldPatchS_any A n c q _ (h.below (by (repeat (first | exact Below.refl _ _ | assumption | (refine Below.drew ?_) | (refine below_drewN ?_ _) | (refine Below.alloc ?_ (by first | exact Nat.le_refl _ | (simp; done) | (simp; omega) | omega) _) | (refine Below.setCell ?_ (by first | exact Nat.le_refl _ | (simp; done) | (simp; omega) | omega) _) | (refine Below.trans ?_ (Below.mono (by assumption) (by first | exact Nat.le_refl _ | (simp; done) | (simp; omega) | omega))))))) hn hq hq2).mono ?_
  rintro e w1 ⟨rfl, rfl⟩
  have hpos : ¬ q + 5 * (n : Int) < 0 := by omega
  go_wp2
  go_ret
  exact ⟨rfl, by (repeat (first | exact Below.refl _ _ | assumption | (refine Below.drew ?_) | (refine below_drewN ?_ _) | (refine Below.alloc ?_ (by first | exact Nat.le_refl _ | (simp; done) | (simp; omega) | omega) _) | (refine Below.setCell ?_ (by first | exact Nat.le_refl _ | (simp; done) | (simp; omega) | omega) _) | (refine Below.trans ?_ (Below.mono (by assumption) (by first | exact Nat.le_refl _ | (simp; done) | (simp; omega) | omega)))))⟩

theorem knotN_len : ∀ (f : Nat) (l k : Lay), knotN f l = some k → k.ps.length ≤ 12 := by
  intro f
  induction f with
  | zero => intro l k h; cases h
  | succ f ih =>
    intro l k h
    unfold knotN at h
    split at h
    · rename_i hc
      rw [Bool.and_eq_true] at hc
      split at h
      · injection h with h
        subst h
        exact (layout_parts hc.1).2.2.1.2
      · split at h
        · rename_i k2 hk2
          injection h with h
          subst h
          exact ih _ _ hk2
        · exact ih _ _ h
    · cases h
theorem knot_small (w h : Int) (ps : List Patch) : (kp (firstKnot ⟨w, h, ps⟩)).length ≤ 12 := by
  cases hk : firstKnot ⟨w, h, ps⟩ with
  | none => exact Nat.zero_le _
  | some k => exact knotN_len _ _ _ hk
theorem knotS_any (w h : Int) (A : Option Addr) (n c : Nat) (ps : List Patch) (W : World) (hR : Rd W A n 5 ps patchC) (hN : n ≤ 1048576) :
    Calls Try.prog 45 #[.agg #[.int .i64 w, .int .i64 h, .slice A n c]] W (KnotOut W (firstKnot ⟨w, h, ps⟩)) := knotS_N ps.length w h A n c ps W (Nat.le_refl _) hR hN
theorem knotI_all (w h : Int) (A : Option Addr) (n c : Nat) (ps : List Patch) (W : World) (hR : Rd W A n 5 ps patchC) (hN : n ≤ 1048576) :
    Calls Try.prog 46 #[.agg #[.int .i64 w, .int .i64 h, .slice A n c]] W (KnotOut W (firstKnot ⟨w, h, ps⟩)) := knotI_N ps.length w h A n c ps W (Nat.le_refl _) hR hN

end Go.Proofs.Ytmjdgplkcocgmaa
