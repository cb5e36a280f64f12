/-
  Contracts over cuts: the sides of a cut, and which lines are cuts.
-/
import Derived.Test.YtmjdgplkcocgmaaZPlain
import Derived.Test.YtmjdgplkcocgmaaLayA
import Derived.Test.YtmjdgplkcocgmaaZWords
set_option linter.unusedVariables false
namespace Go.Proofs.Ytmjdgplkcocgmaa
open Go.RowKit

theorem ret_bb {a b c d : Bool} (h : a = c) (k : b = d) : Ending.returned (.tuple #[.bool a, .bool b]) = .returned (.tuple #[.bool c, .bool d]) := by rw [h, k]

theorem sidesI_any (up : Bool) (at' x y w h col : Int) (W : World) (h1 : 0 ≤ x) (h2 : x ≤ 100) (h3 : 0 ≤ y) (h4 : y ≤ 100) (h5 : 0 ≤ w) (h6 : w ≤ 100) (h7 : 0 ≤ h) (h8 : h ≤ 100) :
    Calls Try.prog 92 #[.agg #[.bool up, .int .i64 at'], .agg #[.int .i64 x, .int .i64 y, .int .i64 w, .int .i64 h, .int .i64 col]] W fun e w' => e = .returned (.tuple #[.bool (before ⟨up, at'⟩ ⟨x, y, w, h, col⟩), .bool (behind ⟨up, at'⟩ ⟨x, y, w, h, col⟩)]) ∧ Below W.heap.size W w' := by
  obtain ⟨jc, hjc⟩ : ∃ j, Hid (W.heap.size = j) := ⟨_, rfl⟩
  obtain ⟨wa, hwa⟩ : ∃ v, Hid (W.alloc (.cells #[.bool up, .int .i64 at'] 72) = v) := ⟨_, rfl⟩
  have c0 : wa.cell? ⟨jc, 0, none⟩ = some (.bool up) := by rw [← hwa.out, ← hjc.out, cell_of_row _ _ _ _ _ _ (heap_alloc_new W _)]; rfl
  have c1 : wa.cell? ⟨jc, 1, none⟩ = some (.int .i64 at') := by rw [← hwa.out, ← hjc.out, cell_of_row _ _ _ _ _ _ (heap_alloc_new W _)]; rfl
  have ba : Below W.heap.size W wa := by rw [← hwa.out]; exact (Below.refl _ _).alloc (Nat.le_refl _) _
  have sa : wa.heap.size = W.heap.size + 1 := by rw [← hwa.out]; simp
  obtain ⟨jp, hjp⟩ : ∃ j, Hid (wa.heap.size = j) := ⟨_, rfl⟩
  have HJP : Hid (W.heap.size + 1 = jp) := by show _ = _; rw [← hjp.out, sa]
  obtain ⟨wb, hwb⟩ : ∃ v, Hid (wa.alloc (.cells #[.int .i64 x, .int .i64 y, .int .i64 w, .int .i64 h, .int .i64 col] 44) = v) := ⟨_, rfl⟩
  have p0 : wb.cell? ⟨jp, 0, none⟩ = some (.int .i64 x) := by rw [← hwb.out, ← hjp.out, cell_of_row _ _ _ _ _ _ (heap_alloc_new wa _)]; rfl
  have p1 : wb.cell? ⟨jp, 1, none⟩ = some (.int .i64 y) := by rw [← hwb.out, ← hjp.out, cell_of_row _ _ _ _ _ _ (heap_alloc_new wa _)]; rfl
  have p2 : wb.cell? ⟨jp, 2, none⟩ = some (.int .i64 w) := by rw [← hwb.out, ← hjp.out, cell_of_row _ _ _ _ _ _ (heap_alloc_new wa _)]; rfl
  have p3 : wb.cell? ⟨jp, 3, none⟩ = some (.int .i64 h) := by rw [← hwb.out, ← hjp.out, cell_of_row _ _ _ _ _ _ (heap_alloc_new wa _)]; rfl
  have bb : Below wa.heap.size wa wb := by rw [← hwb.out]; exact (Below.refl _ _).alloc (Nat.le_refl _) _
  replace c0 := keepcell c0 bb
  replace c1 := keepcell c1 bb
  have hB := ba.trans (bb.mono ba.size)
  clear sa ba bb
  cases up
  · go_enter Try.func92, Try.ntmps92
    go_wp2_with (first | rw [hwa.out] | rw [hwb.out] | rw [hjp.out] | rw [HJP.out] | rw [hjc.out])
    go_quiet (fail)
    go_wp2
    go_ret2
    exact ⟨ret_bb rfl rfl, by (repeat (first | exact Below.refl _ _ | assumption | (refine Below.drew ?_) | (refine below_drewN ?_ _) | (refine Below.alloc ?_ (by first | exact Nat.le_refl _ | (simp; done) | (simp; omega) | omega) _) | (refine Below.setCell ?_ (by first | exact Nat.le_refl _ | (simp; done) | (simp; omega) | omega) _) | (refine Below.trans ?_ (Below.mono (by assumption) (by first | exact Nat.le_refl _ | (simp; done) | (simp; omega) | omega)))))⟩
  · go_enter Try.func92, Try.ntmps92
    go_wp2_with (first | rw [hwa.out] | rw [hwb.out] | rw [hjp.out] | rw [HJP.out] | rw [hjc.out])
    go_quiet (fail)
    go_wp2
    go_ret2
    exact ⟨ret_bb rfl rfl, by (repeat (first | exact Below.refl _ _ | assumption | (refine Below.drew ?_) | (refine below_drewN ?_ _) | (refine Below.alloc ?_ (by first | exact Nat.le_refl _ | (simp; done) | (simp; omega) | omega) _) | (refine Below.setCell ?_ (by first | exact Nat.le_refl _ | (simp; done) | (simp; omega) | omega) _) | (refine Below.trans ?_ (Below.mono (by assumption) (by first | exact Nat.le_refl _ | (simp; done) | (simp; omega) | omega)))))⟩

end Go.Proofs.Ytmjdgplkcocgmaa
