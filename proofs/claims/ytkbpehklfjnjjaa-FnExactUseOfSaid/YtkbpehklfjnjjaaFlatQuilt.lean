/-
  Structs that hold a slice: how the law file copies, compares and marks them.
-/
import Derived.Test.YtkbpehklfjnjjaaFlatSpot
import Derived.Test.YtkbpehklfjnjjaaFlatBlock
set_option linter.unusedVariables false
namespace Go.Proofs.Ytkbpehklfjnjjaa
open Go.RowKit

theorem szQuilt_any (a0 a1 : Int) (A : Option Addr) (n c : Nat) (l : Int) (W : World) (hl : -1 ≤ l) (hl2 : l ≤ 1048576) (hn : n ≤ 9223372036854775807) : Calls Try.prog 31 #[.agg #[.int .i64 a0, .int .i64 a1, .slice A n c], .int .i64 l] W fun e w' => e = .returned (.int .i64 (szLeft l n)) ∧ Below W.heap.size W w' := by
  rcases szLeft_cases l n with ⟨h1, h2⟩ | ⟨h1, h2⟩
  · go_enter Try.func31, Try.ntmps31
    go_wp2_with (go_at_call 55; refine (szSpotS_any _ _ _ _ _ hl hl2 hn).mono ?_; rintro e w' ⟨rfl, rfl⟩)
    go_ret
    exact ⟨ret_i h2.symm, by (repeat (first | exact Below.refl _ _ | assumption | (refine Below.drew ?_) | (refine below_drewN ?_ _) | (refine Below.alloc ?_ (by first | exact Nat.le_refl _ | (simp; done) | (simp; omega) | omega) _) | (refine Below.setCell ?_ (by first | exact Nat.le_refl _ | (simp; done) | (simp; omega) | omega) _) | (refine Below.trans ?_ (Below.mono (by assumption) (by first | exact Nat.le_refl _ | (simp; done) | (simp; omega) | omega)))))⟩
  · go_enter Try.func31, Try.ntmps31
    go_wp2_with (go_at_call 55; refine (szSpotS_any _ _ _ _ _ hl hl2 hn).mono ?_; rintro e w' ⟨rfl, rfl⟩)
    go_ret
    exact ⟨ret_i (by first | rfl | exact h2.symm), by (repeat (first | exact Below.refl _ _ | assumption | (refine Below.drew ?_) | (refine below_drewN ?_ _) | (refine Below.alloc ?_ (by first | exact Nat.le_refl _ | (simp; done) | (simp; omega) | omega) _) | (refine Below.setCell ?_ (by first | exact Nat.le_refl _ | (simp; done) | (simp; omega) | omega) _) | (refine Below.trans ?_ (Below.mono (by assumption) (by first | exact Nat.le_refl _ | (simp; done) | (simp; omega) | omega)))))⟩

def MadeQuilt (W : World) (a0 a1 : Int) (n : Nat) (xs : List Spot) (e : Ending) (w' : World) : Prop :=
  ∃ A c, e = .returned (.agg #[.int .i64 a0, .int .i64 a1, .slice A n c]) ∧ n ≤ c ∧ Own w' W.heap.size w'.heap.size A n 2 xs spotC ∧ Below W.heap.size W w'

theorem toQuilt_any (a0 a1 : Int) (A : Option Addr) (n c : Nat) (xs : List Spot) (W : World) (h : Rd W A n 2 xs spotC) (hn : n ≤ 1048576) :
    Calls Try.prog 34 #[.agg #[.int .i64 a0, .int .i64 a1, .slice A n c]] W (MadeQuilt W a0 a1 n xs) := by
  go_enter Try.func34, Try.ntmps34
  go_wp2_with fail
  refine (toSpotS_any A n c xs _ (h.below (by (repeat (first | exact Below.refl _ _ | assumption | (refine Below.drew ?_) | (refine below_drewN ?_ _) | (refine Below.alloc ?_ (by first | exact Nat.le_refl _ | (simp; done) | (simp; omega) | omega) _) | (refine Below.setCell ?_ (by first | exact Nat.le_refl _ | (simp; done) | (simp; omega) | omega) _) | (refine Below.trans ?_ (Below.mono (by assumption) (by first | exact Nat.le_refl _ | (simp; done) | (simp; omega) | omega))))))) hn).mono ?_
  rintro e w1 ⟨A1, c1, rfl, hk1, hO1, hb1⟩
  obtain ⟨hc1, hf1⟩ := bcell hb1
  have hz1 := hb1.size
  simp at hz1
  have hy1 : W.heap.size < w1.heap.size := by omega
  have hy2 : W.heap.size + 1 < w1.heap.size := by omega
  have hy3 : W.heap.size + 1 + 1 < w1.heap.size := by omega
  have hB1 : Below W.heap.size W w1 := by (repeat (first | exact Below.refl _ _ | assumption | (refine Below.drew ?_) | (refine below_drewN ?_ _) | (refine Below.alloc ?_ (by first | exact Nat.le_refl _ | (simp; done) | (simp; omega) | omega) _) | (refine Below.setCell ?_ (by first | exact Nat.le_refl _ | (simp; done) | (simp; omega) | omega) _) | (refine Below.trans ?_ (Below.mono (by assumption) (by first | exact Nat.le_refl _ | (simp; done) | (simp; omega) | omega)))))
  go_wp2
  refine bodyPost_ret (v := .agg #[.int .i64 a0, .int .i64 a1, .slice A1 n c1]) (by simp [results, Try.results34, go_sem, hc1]) rfl ⟨A1, c1, rfl, hk1, ?_, ?_⟩
  · refine (hO1.only (lo' := W.heap.size) (hi' := W.heap.size + 3) ?_ (by simp)).mono (by simp; omega) (by simp [World.setCell])
    repeat (first | exact Only.refl _ _ _ | (refine only_put ?_ _ (by omega) (by omega)))
  · (repeat (first | exact Below.refl _ _ | assumption | (refine Below.drew ?_) | (refine below_drewN ?_ _) | (refine Below.alloc ?_ (by first | exact Nat.le_refl _ | (simp; done) | (simp; omega) | omega) _) | (refine Below.setCell ?_ (by first | exact Nat.le_refl _ | (simp; done) | (simp; omega) | omega) _) | (refine Below.trans ?_ (Below.mono (by assumption) (by first | exact Nat.le_refl _ | (simp; done) | (simp; omega) | omega)))))

theorem eqQuilt_any (a0 a1 : Int) (A B : Option Addr) (n c d : Nat) (xs : List Spot) (W : World) (h : Rd W A n 2 xs spotC) (h' : Rd W B n 2 xs spotC) (hn : n ≤ 1048576) :
    Calls Try.prog 37 #[.agg #[.int .i64 a0, .int .i64 a1, .slice A n c], .agg #[.int .i64 a0, .int .i64 a1, .slice B n d]] W fun e w' => e = .returned (.bool true) ∧ Below W.heap.size W w' := by
  go_enter Try.func37, Try.ntmps37
  go_wp2_with fail
  refine (eqSpotS_any _ _ n _ _ xs _ (h.below (by (repeat (first | exact Below.refl _ _ | assumption | (refine Below.drew ?_) | (refine below_drewN ?_ _) | (refine Below.alloc ?_ (by first | exact Nat.le_refl _ | (simp; done) | (simp; omega) | omega) _) | (refine Below.setCell ?_ (by first | exact Nat.le_refl _ | (simp; done) | (simp; omega) | omega) _) | (refine Below.trans ?_ (Below.mono (by assumption) (by first | exact Nat.le_refl _ | (simp; done) | (simp; omega) | omega))))))) (h'.below (by (repeat (first | exact Below.refl _ _ | assumption | (refine Below.drew ?_) | (refine below_drewN ?_ _) | (refine Below.alloc ?_ (by first | exact Nat.le_refl _ | (simp; done) | (simp; omega) | omega) _) | (refine Below.setCell ?_ (by first | exact Nat.le_refl _ | (simp; done) | (simp; omega) | omega) _) | (refine Below.trans ?_ (Below.mono (by assumption) (by first | exact Nat.le_refl _ | (simp; done) | (simp; omega) | omega))))))) hn).mono ?_
  rintro e w1 ⟨rfl, hb1⟩
  go_wp2_with fail
  go_ret
  exact ⟨rfl, by (repeat (first | exact Below.refl _ _ | assumption | (refine Below.drew ?_) | (refine below_drewN ?_ _) | (refine Below.alloc ?_ (by first | exact Nat.le_refl _ | (simp; done) | (simp; omega) | omega) _) | (refine Below.setCell ?_ (by first | exact Nat.le_refl _ | (simp; done) | (simp; omega) | omega) _) | (refine Below.trans ?_ (Below.mono (by assumption) (by first | exact Nat.le_refl _ | (simp; done) | (simp; omega) | omega)))))⟩

theorem markQuilt_any (a0 a1 : Int) (A : Option Addr) (n c lo hi : Nat) (q : Int) (xs : List Spot) (W : World) (h : Own W lo hi A n 2 xs spotC) (hn : n ≤ 4194304) (hq : 0 ≤ q) (hq2 : q ≤ 1000000000) :
    Calls Try.prog 41 #[.agg #[.int .i64 a0, .int .i64 a1, .slice A n c], .int .i64 q] W fun e w' => e = .returned (.int .i64 (q + 2 * (n : Int))) ∧ Own w' lo hi A n 2 (marksSpotS q n) spotC ∧ Only lo hi W w' := by
  go_enter Try.func41, Try.ntmps41
  go_wp2_with fail
  refine (markSpotS_any A n c lo hi q xs _ (h.below (by (repeat (first | exact Below.refl _ _ | assumption | (refine Below.drew ?_) | (refine below_drewN ?_ _) | (refine Below.alloc ?_ (by first | exact Nat.le_refl _ | (simp; done) | (simp; omega) | omega) _) | (refine Below.setCell ?_ (by first | exact Nat.le_refl _ | (simp; done) | (simp; omega) | omega) _) | (refine Below.trans ?_ (Below.mono (by assumption) (by first | exact Nat.le_refl _ | (simp; done) | (simp; omega) | omega))))))) hn hq hq2).mono ?_
  rintro e w1 ⟨rfl, hM, hg⟩
  go_wp2_with fail
  go_ret
  exact ⟨rfl, hM, (Only.of_below ((Below.refl _ _).alloc (Nat.le_refl _) _)).trans hg⟩

end Go.Proofs.Ytkbpehklfjnjjaa
