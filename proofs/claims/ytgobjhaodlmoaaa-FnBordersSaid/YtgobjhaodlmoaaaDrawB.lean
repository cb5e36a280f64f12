/-
  A drawn border; the law 'with spacers every border fits'.
-/
import Derived.Test.YtgobjhaodlmoaaaDrawA
import Derived.Test.YtgobjhaodlmoaaaScalC
import Derived.Test.YtgobjhaodlmoaaaPlainC
set_option linter.unusedVariables false
namespace Go.Proofs.Ytgobjhaodlmoaaa
open Go.RowKit

def BorderOut (W0 : World) (g : Nat) (A : Option Addr) (n : Nat) (xs : List UInt8) (e : Ending) (w' : World) : Prop :=
  ∃ u d : Int, e = .returned (.agg #[.int .i64 u, .int .i64 d]) ∧ 1 ≤ u ∧ u ≤ 12 ∧ 1 ≤ d ∧ d ≤ 30 ∧ Cur W0 w' g A n xs

theorem l19Border_any (W0 : World) (g : Nat) (A : Option Addr) (n : Nat) (xs : List UInt8) (W : World) (hC : Cur W0 W g A n xs) :
    Calls Try.prog 59 #[.pointer (some ⟨g, 0, none⟩)] W (BorderOut W0 g A n xs) := by
  go_enter Try.func59, Try.ntmps59
  go_wp2_with fail
  have hCa := hC.below ((Below.refl _ _).alloc (Nat.le_refl _) (.cells #[.int .i64 0, .int .i64 0] 46))
  have hgW := hC.lt
  refine (l01Below_any W0 g A n xs 12 _ hCa (by omega)).mono ?_
  rintro e w1 ⟨x, rfl, hx, hC1, ho1⟩
  have hb1 : w1.heap[W.heap.size]? = _ := (ho1.block W.heap.size (by simp) (by omega)).trans (heap_alloc_new W _)
  have hx0 := hx.1
  have hx1 := hx.2.1 (by omega)
  have hz1 := ho1.size
  simp at hz1
  clear hx
  go_wp2_with fail
  refine (l01Below_any W0 g A n xs 30 _ hC1 (by omega)).mono ?_
  rintro e w2 ⟨y, rfl, hy, hC2, ho2⟩
  have hb2 : w2.heap[W.heap.size]? = _ := (ho2.block W.heap.size (by omega) (by omega)).trans hb1
  have hy0 := hy.1
  have hy1 := hy.2.1 (by omega)
  have hz2 := ho2.size
  clear hy
  have e0 : w2.cell? ⟨W.heap.size, 0, none⟩ = some (.int .i64 0) := by rw [cell_of_row _ _ _ _ _ _ hb2]; rfl
  have e1 : w2.cell? ⟨W.heap.size, 1, none⟩ = some (.int .i64 0) := by rw [cell_of_row _ _ _ _ _ _ hb2]; rfl
  have f0 : w2.frozen? ⟨W.heap.size, 0, none⟩ = false := frozen_of_row w2 _ 0 _ _ hb2
  have f1 : w2.frozen? ⟨W.heap.size, 1, none⟩ = false := frozen_of_row w2 _ 1 _ _ hb2
  clear hb1 hb2
  go_wp2
  refine bodyPost_ret (v := .agg #[.int .i64 (1 + x), .int .i64 (1 + y)]) (by simp [results, Try.results59, go_sem, e0, e1]) rfl ⟨_, _, rfl, by omega, by omega, by omega, by omega, ?_⟩
  obtain ⟨h1, h2, h3, h4, c, i, k, h5, h6⟩ := hC2
  refine ⟨h1, (h2.setCell (p := ⟨W.heap.size, 0, none⟩) hC.base.size _).setCell (p := ⟨W.heap.size, 1, none⟩) hC.base.size _, h3, h4, c, i, k, h5, ?_⟩
  rw [Below.heap_setCell _ _ _ _ (by show g ≠ W.heap.size; omega), Below.heap_setCell _ _ _ _ (by show g ≠ W.heap.size; omega)]
  exact h6

def BorderDrawn (W : World) (e : Ending) (w' : World) : Prop :=
  ∃ u d : Int, e = .returned (.agg #[.int .i64 u, .int .i64 d]) ∧ 1 ≤ u ∧ u ≤ 12 ∧ 1 ≤ d ∧ d ≤ 30 ∧ Below W.heap.size W w'

theorem drawBorder_any (A : Option Addr) (n c : Nat) (xs : List UInt8) (W : World) (hR : Rd W A n 1 xs byteC) (hn : n ≤ 1048576) :
    Calls Try.prog 37 #[.slice A n c] W (BorderDrawn W) := by
  go_enter Try.func37, Try.ntmps37
  go_wp2_with fail
  have hRa := hR.below ((Below.refl _ _).alloc (Nat.le_refl _) (.cells #[.int .i64 0, .int .i64 0] 46))
  refine (l01New_any A n c xs _ hRa hn).mono ?_
  rintro e w1 ⟨g, rfl, hC1⟩
  have hb1 := hC1.base
  go_wp2_with fail
  refine (l19Border_any _ _ A n xs _ hC1).mono ?_
  rintro e w2 ⟨u, d, rfl, hu0, hu1, hd0, hd1, hC2⟩
  have hb2 := hC2.base
  obtain ⟨hc2, hf2⟩ := bcell hb2
  have hz2 := hb2.size
  simp at hz2
  go_wp2
  exact bodyPost_ret (v := .agg #[.int .i64 u, .int .i64 d]) (by simp [results, Try.results37, go_sem, hc2]) rfl ⟨_, _, rfl, hu0, hu1, hd0, hd1, by (repeat (first | exact Below.refl _ _ | assumption | (refine Below.drew ?_) | (refine below_drewN ?_ _) | (refine Below.alloc ?_ (by first | exact Nat.le_refl _ | (simp; done) | (simp; omega) | omega) _) | (refine Below.setCell ?_ (by first | exact Nat.le_refl _ | (simp; done) | (simp; omega) | omega) _) | (refine Below.trans ?_ (Below.mono (by assumption) (by first | exact Nat.le_refl _ | (simp; done) | (simp; omega) | omega)))))⟩

end Go.Proofs.Ytgobjhaodlmoaaa
