/-
  The walks of the exact laws of this seat, out of the contracts.
-/
import Derived.Test.YtmjdgplkcocgmaaUniL
import Derived.Test.YtmjdgplkcocgmaaFlatLayout
import Derived.Test.YtmjdgplkcocgmaaFlatJoin
set_option linter.unusedVariables false
namespace Go.Proofs.Ytmjdgplkcocgmaa
open Go.RowKit

set_option maxRecDepth 100000 in
set_option maxHeartbeats 2000000 in
theorem walk_FnExactLongestSeam (a0_0 a0_1 : Int) (A0 : Option Addr) (n0 c0 : Nat) (xs0 : List Patch) (A1 : Option Addr) (n1 c1 : Nat) (xs1 : List Join) (W : World) (hw0_0 : (Lit.int .i64 a0_0).wf = true) (hw0_1 : (Lit.int .i64 a0_1).wf = true) (hk0_ : n0 ≤ c0) (hm0_ : c0 ≤ maxLen) (hR0 : Rd W A0 n0 5 xs0 patchC) (hk1_ : n1 ≤ c1) (hm1_ : c1 ≤ maxLen) (hR1 : Rd W A1 n1 3 xs1 joinC) :
    Calls Try.prog 8 #[.agg #[.int .i64 a0_0, .int .i64 a0_1, .slice A0 n0 c0], .slice A1 n1 c1] W fun e w' => e = .returned (.bool true) ∧ Below W.heap.size W w' := by
  clear hw0_0 hw0_1
  rcases (szLeft_cases (1048576) n0) with ⟨hl0, hs0⟩ | ⟨hl0, hs0⟩
  · go_enter Try.func8, Try.ntmps8
    go_wp2_with (first | (go_at_call 15; refine (szLayout_any _ _ _ _ _ _ _ (by omega) (by omega) (by unfold maxLen at *; omega)).mono ?_; rintro e wz ⟨rfl, hbz⟩) | (go_at_call 33; refine (szJoinS_any _ _ _ _ _ (by omega) (by omega) (by unfold maxLen at *; omega)).mono ?_; rintro e w' ⟨rfl, rfl⟩))
    go_ret
    exact ⟨rfl, by (repeat (first | exact Below.refl _ _ | assumption | (refine Below.drew ?_) | (refine below_drewN ?_ _) | (refine Below.alloc ?_ (by first | exact Nat.le_refl _ | (simp; done) | (simp; omega) | omega) _) | (refine Below.setCell ?_ (by first | exact Nat.le_refl _ | (simp; done) | (simp; omega) | omega) _) | (refine Below.trans ?_ (Below.mono (by assumption) (by first | exact Nat.le_refl _ | (simp; done) | (simp; omega) | omega)))))⟩
  rcases (szLeft_cases (1048576 - (n0 : Int)) n1) with ⟨hl1, hs1⟩ | ⟨hl1, hs1⟩
  · go_enter Try.func8, Try.ntmps8
    go_wp2_with (first | (go_at_call 15; refine (szLayout_any _ _ _ _ _ _ _ (by omega) (by omega) (by unfold maxLen at *; omega)).mono ?_; rintro e wz ⟨rfl, hbz⟩) | (go_at_call 33; refine (szJoinS_any _ _ _ _ _ (by omega) (by omega) (by unfold maxLen at *; omega)).mono ?_; rintro e w' ⟨rfl, rfl⟩))
    go_ret
    exact ⟨rfl, by (repeat (first | exact Below.refl _ _ | assumption | (refine Below.drew ?_) | (refine below_drewN ?_ _) | (refine Below.alloc ?_ (by first | exact Nat.le_refl _ | (simp; done) | (simp; omega) | omega) _) | (refine Below.setCell ?_ (by first | exact Nat.le_refl _ | (simp; done) | (simp; omega) | omega) _) | (refine Below.trans ?_ (Below.mono (by assumption) (by first | exact Nat.le_refl _ | (simp; done) | (simp; omega) | omega)))))⟩
  have hR10_ := hR1
  have hR00_ := hR0
  go_enter Try.func8, Try.ntmps8
  go_wp2_with fail
  obtain ⟨bx, hbx⟩ : ∃ b, Hid (b = W.heap.size) := ⟨_, rfl⟩
  have qbx_0 : (W.alloc (.cells #[.int .i64 a0_0, .int .i64 a0_1, .slice A0 n0 c0] 24)).cell? ⟨bx, 0, none⟩ = some (.int .i64 a0_0) := by rw [hbx.out, cell_of_row _ _ _ _ _ _ (heap_alloc_new W _)]; rfl
  have qbx_1 : (W.alloc (.cells #[.int .i64 a0_0, .int .i64 a0_1, .slice A0 n0 c0] 24)).cell? ⟨bx, 1, none⟩ = some (.int .i64 a0_1) := by rw [hbx.out, cell_of_row _ _ _ _ _ _ (heap_alloc_new W _)]; rfl
  have qbx_2 : (W.alloc (.cells #[.int .i64 a0_0, .int .i64 a0_1, .slice A0 n0 c0] 24)).cell? ⟨bx, 2, none⟩ = some (.slice A0 n0 c0) := by rw [hbx.out, cell_of_row _ _ _ _ _ _ (heap_alloc_new W _)]; rfl
  have hb1 : Below W.heap.size W (W.alloc (.cells #[.int .i64 a0_0, .int .i64 a0_1, .slice A0 n0 c0] 24)) := (Below.refl _ _).alloc (Nat.le_refl _) _
  have hz1 : W.heap.size < (W.alloc (.cells #[.int .i64 a0_0, .int .i64 a0_1, .slice A0 n0 c0] 24)).heap.size := by simp
  rw [← hbx.out]
  generalize (W.alloc (.cells #[.int .i64 a0_0, .int .i64 a0_1, .slice A0 n0 c0] 24)) = w1 at qbx_0 qbx_1 qbx_2 hb1 hz1 ⊢
  have hB1 : Below W.heap.size W w1 := hb1
  have hs1 : W.heap.size ≤ w1.heap.size := hB1.size
  replace hR0 := hR0.below hb1
  replace hR1 := hR1.below hb1
  refine (szLayout_any _ _ _ _ _ _ _ (by omega) (by omega) (by unfold maxLen at *; omega)).mono ?_
  rintro e w2 ⟨rfl, hb2⟩
  have hz2 := hb2.size
  have hB2 : Below W.heap.size W w2 := hB1.trans (hb2.mono hs1)
  have hs2 : W.heap.size ≤ w2.heap.size := hB2.size
  replace hR0 := hR0.below hb2
  replace hR1 := hR1.below hb2
  replace qbx_0 := keepcell qbx_0 hb2
  replace qbx_1 := keepcell qbx_1 hb2
  replace qbx_2 := keepcell qbx_2 hb2
  clear hb2
  have hn0_ : n0 ≤ 1048576 := by omega
  have hn1_ : n1 ≤ 1048576 := by omega
  go_wp2_with (first | (go_at_call 33; refine (szJoinS_any _ _ _ _ _ (by omega) (by omega) (by unfold maxLen at *; omega)).mono ?_; rintro e w' ⟨rfl, rfl⟩))
  refine (toLayout_any a0_0 a0_1 A0 n0 c0 xs0 _ hR0 (by omega)).mono ?_
  rintro e w3 ⟨A_3, c_3, rfl, hk_3, hO3, hb3⟩
  have hz3 := hb3.size
  have hB3 : Below W.heap.size W w3 := hB2.trans (hb3.mono hs2)
  have hs3 : W.heap.size ≤ w3.heap.size := hB3.size
  replace hR0 := hR0.below hb3
  replace hR1 := hR1.below hb3
  replace qbx_0 := keepcell qbx_0 hb3
  replace qbx_1 := keepcell qbx_1 hb3
  replace qbx_2 := keepcell qbx_2 hb3
  clear hb3
  go_wp2_with (first | (go_at_call 33; refine (szJoinS_any _ _ _ _ _ (by omega) (by omega) (by unfold maxLen at *; omega)).mono ?_; rintro e w' ⟨rfl, rfl⟩))
  refine (toJoinS_any A1 n1 c1 xs1 _ hR1 (by omega)).mono ?_
  rintro e w4 ⟨A_4, c_4, rfl, hk_4, hO4, hb4⟩
  have hz4 := hb4.size
  have hB4 : Below W.heap.size W w4 := hB3.trans (hb4.mono hs3)
  have hs4 : W.heap.size ≤ w4.heap.size := hB4.size
  replace hO3 := hO3.below hb4
  replace hR0 := hR0.below hb4
  replace hR1 := hR1.below hb4
  replace qbx_0 := keepcell qbx_0 hb4
  replace qbx_1 := keepcell qbx_1 hb4
  replace qbx_2 := keepcell qbx_2 hb4
  clear hb4
  go_wp2_with (first | (go_at_call 33; refine (szJoinS_any _ _ _ _ _ (by omega) (by omega) (by unfold maxLen at *; omega)).mono ?_; rintro e w' ⟨rfl, rfl⟩))
  refine (longS_any _ _ _ _ _ xs0 _ _ _ xs1 _ (hO3.rd) (by omega) (hO4.rd) (by omega)).mono ?_
  rintro e w5 ⟨rfl, hb5⟩
  have hz5 := hb5.size
  have hB5 : Below W.heap.size W w5 := hB4.trans (hb5.mono hs4)
  have hs5 : W.heap.size ≤ w5.heap.size := hB5.size
  replace hO3 := hO3.below hb5
  replace hO4 := hO4.below hb5
  replace hR0 := hR0.below hb5
  replace hR1 := hR1.below hb5
  replace qbx_0 := keepcell qbx_0 hb5
  replace qbx_1 := keepcell qbx_1 hb5
  replace qbx_2 := keepcell qbx_2 hb5
  clear hb5
  go_wp2_with (first | (go_at_call 33; refine (szJoinS_any _ _ _ _ _ (by omega) (by omega) (by unfold maxLen at *; omega)).mono ?_; rintro e w' ⟨rfl, rfl⟩))
  refine (toLayout_any a0_0 a0_1 A0 n0 c0 xs0 _ hR0 (by omega)).mono ?_
  rintro e w6 ⟨A_6, c_6, rfl, hk_6, hO6, hb6⟩
  have hz6 := hb6.size
  have hB6 : Below W.heap.size W w6 := hB5.trans (hb6.mono hs5)
  have hs6 : W.heap.size ≤ w6.heap.size := hB6.size
  replace hR0 := hR0.below hb6
  replace hR1 := hR1.below hb6
  replace qbx_0 := keepcell qbx_0 hb6
  replace qbx_1 := keepcell qbx_1 hb6
  replace qbx_2 := keepcell qbx_2 hb6
  clear hb6
  go_wp2_with fail
  obtain ⟨bx6, hbx6⟩ : ∃ b, Hid (b = w6.heap.size) := ⟨_, rfl⟩
  have qbx6_0 : (w6.alloc (.cells #[.int .i64 a0_0, .int .i64 a0_1, .slice A_6 n0 c_6] 30)).cell? ⟨bx6, 0, none⟩ = some (.int .i64 a0_0) := by rw [hbx6.out, cell_of_row _ _ _ _ _ _ (heap_alloc_new w6 _)]; rfl
  have qbx6_1 : (w6.alloc (.cells #[.int .i64 a0_0, .int .i64 a0_1, .slice A_6 n0 c_6] 30)).cell? ⟨bx6, 1, none⟩ = some (.int .i64 a0_1) := by rw [hbx6.out, cell_of_row _ _ _ _ _ _ (heap_alloc_new w6 _)]; rfl
  have qbx6_2 : (w6.alloc (.cells #[.int .i64 a0_0, .int .i64 a0_1, .slice A_6 n0 c_6] 30)).cell? ⟨bx6, 2, none⟩ = some (.slice A_6 n0 c_6) := by rw [hbx6.out, cell_of_row _ _ _ _ _ _ (heap_alloc_new w6 _)]; rfl
  have hb7 : Below w6.heap.size w6 (w6.alloc (.cells #[.int .i64 a0_0, .int .i64 a0_1, .slice A_6 n0 c_6] 30)) := (Below.refl _ _).alloc (Nat.le_refl _) _
  have hz7 : w6.heap.size < (w6.alloc (.cells #[.int .i64 a0_0, .int .i64 a0_1, .slice A_6 n0 c_6] 30)).heap.size := by simp
  rw [← hbx6.out]
  generalize (w6.alloc (.cells #[.int .i64 a0_0, .int .i64 a0_1, .slice A_6 n0 c_6] 30)) = w7 at qbx6_0 qbx6_1 qbx6_2 hb7 hz7 ⊢
  have hB7 : Below W.heap.size W w7 := hB6.trans (hb7.mono hs6)
  have hs7 : W.heap.size ≤ w7.heap.size := hB7.size
  replace hO6 := hO6.below hb7
  replace hR0 := hR0.below hb7
  replace hR1 := hR1.below hb7
  replace qbx_0 := keepcell qbx_0 hb7
  replace qbx_1 := keepcell qbx_1 hb7
  replace qbx_2 := keepcell qbx_2 hb7
  refine (toJoinS_any A1 n1 c1 xs1 _ hR1 (by omega)).mono ?_
  rintro e w8 ⟨A_8, c_8, rfl, hk_8, hO8, hb8⟩
  have hz8 := hb8.size
  have hB8 : Below W.heap.size W w8 := hB7.trans (hb8.mono hs7)
  have hs8 : W.heap.size ≤ w8.heap.size := hB8.size
  replace hO6 := hO6.below hb8
  replace hR0 := hR0.below hb8
  replace hR1 := hR1.below hb8
  replace qbx_0 := keepcell qbx_0 hb8
  replace qbx_1 := keepcell qbx_1 hb8
  replace qbx_2 := keepcell qbx_2 hb8
  replace qbx6_0 := keepcell qbx6_0 hb8
  replace qbx6_1 := keepcell qbx6_1 hb8
  replace qbx6_2 := keepcell qbx6_2 hb8
  clear hb8
  go_wp2_with (first | (go_at_call 33; refine (szJoinS_any _ _ _ _ _ (by omega) (by omega) (by unfold maxLen at *; omega)).mono ?_; rintro e w' ⟨rfl, rfl⟩))
  refine (longI_any _ _ _ _ _ xs0 _ _ _ xs1 _ (hO6.rd) (by omega) (hO8.rd) (by omega)).mono ?_
  rintro e w9 ⟨rfl, hb9⟩
  have hz9 := hb9.size
  have hB9 : Below W.heap.size W w9 := hB8.trans (hb9.mono hs8)
  have hs9 : W.heap.size ≤ w9.heap.size := hB9.size
  replace hO6 := hO6.below hb9
  replace hO8 := hO8.below hb9
  replace hR0 := hR0.below hb9
  replace hR1 := hR1.below hb9
  replace qbx_0 := keepcell qbx_0 hb9
  replace qbx_1 := keepcell qbx_1 hb9
  replace qbx_2 := keepcell qbx_2 hb9
  replace qbx6_0 := keepcell qbx6_0 hb9
  replace qbx6_1 := keepcell qbx6_1 hb9
  replace qbx6_2 := keepcell qbx6_2 hb9
  clear hb9
  go_wp2_with (first | (go_at_call 33; refine (szJoinS_any _ _ _ _ _ (by omega) (by omega) (by unfold maxLen at *; omega)).mono ?_; rintro e w' ⟨rfl, rfl⟩))
  go_region_held3 (fun v => v.cell? ⟨bx, 0, none⟩ = some (.int .i64 a0_0) ∧ v.cell? ⟨bx, 1, none⟩ = some (.int .i64 a0_1) ∧ v.cell? ⟨bx, 2, none⟩ = some (.slice A0 n0 c0) ∧ v.cell? ⟨bx6, 0, none⟩ = some (.int .i64 a0_0) ∧ v.cell? ⟨bx6, 1, none⟩ = some (.int .i64 a0_1) ∧ v.cell? ⟨bx6, 2, none⟩ = some (.slice A_6 n0 c_6))
    (first | (go_split_ands; refine ⟨?_, ?_, ?_, ?_, ?_, ?_⟩ <;> first | (exact keepcell (by assumption) (by assumption)) | (go_keep)) | (go_keep))
    (first
      | (go_at_call 17; refine (toLayout_any a0_0 a0_1 A0 n0 c0 xs0 _ ?_ (by omega)).mono ?_; (first | exact hR0 | exact hR0.below ((Below.refl _ _).drew)); rintro e w10 ⟨A_10, c_10, rfl, hk_10, hO10, hb10⟩)
      | (go_at_call 20; refine (eqLayout_any _ _ _ _ n0 _ _ xs0 _ (Own.rd (Own.below hO6 (show Below w9.heap.size w9 w10 from ⟨hb10.os, hb10.tape, hb10.output, hb10.size, hb10.block⟩))) hO10.rd (by omega)).mono ?_; rintro e w11 ⟨rfl, hb11⟩))
  all_goals go_split_ands
  have hb10 : Below w9.heap.size w9 w10 := ⟨hb10.os, hb10.tape, hb10.output, hb10.size, hb10.block⟩
  have hz10 := hb10.size
  have hB10 : Below W.heap.size W w10 := hB9.trans (hb10.mono hs9)
  have hs10 : W.heap.size ≤ w10.heap.size := hB10.size
  replace hO6 := hO6.below hb10
  replace hO8 := hO8.below hb10
  replace hR0 := hR0.below hb10
  replace hR1 := hR1.below hb10
  replace qbx_0 := keepcell qbx_0 hb10
  replace qbx_1 := keepcell qbx_1 hb10
  replace qbx_2 := keepcell qbx_2 hb10
  replace qbx6_0 := keepcell qbx6_0 hb10
  replace qbx6_1 := keepcell qbx6_1 hb10
  replace qbx6_2 := keepcell qbx6_2 hb10
  clear hb10
  have hz11 := hb11.size
  have hB11 : Below W.heap.size W w11 := hB10.trans (hb11.mono hs10)
  have hs11 : W.heap.size ≤ w11.heap.size := hB11.size
  replace hO6 := hO6.below hb11
  replace hO8 := hO8.below hb11
  replace hR0 := hR0.below hb11
  replace hR1 := hR1.below hb11
  replace qbx_0 := keepcell qbx_0 hb11
  replace qbx_1 := keepcell qbx_1 hb11
  replace qbx_2 := keepcell qbx_2 hb11
  replace qbx6_0 := keepcell qbx6_0 hb11
  replace qbx6_1 := keepcell qbx6_1 hb11
  replace qbx6_2 := keepcell qbx6_2 hb11
  clear hb11
  go_wp2_with (first | (go_at_call 33; refine (szJoinS_any _ _ _ _ _ (by omega) (by omega) (by unfold maxLen at *; omega)).mono ?_; rintro e w' ⟨rfl, rfl⟩))
  refine (toJoinS_any A1 n1 c1 xs1 _ hR1 (by omega)).mono ?_
  rintro e w12 ⟨A_12, c_12, rfl, hk_12, hO12, hb12⟩
  have hz12 := hb12.size
  have hB12 : Below W.heap.size W w12 := hB11.trans (hb12.mono hs11)
  have hs12 : W.heap.size ≤ w12.heap.size := hB12.size
  replace hO6 := hO6.below hb12
  replace hO8 := hO8.below hb12
  replace hR0 := hR0.below hb12
  replace hR1 := hR1.below hb12
  replace qbx_0 := keepcell qbx_0 hb12
  replace qbx_1 := keepcell qbx_1 hb12
  replace qbx_2 := keepcell qbx_2 hb12
  replace qbx6_0 := keepcell qbx6_0 hb12
  replace qbx6_1 := keepcell qbx6_1 hb12
  replace qbx6_2 := keepcell qbx6_2 hb12
  clear hb12
  go_wp2_with (first | (go_at_call 33; refine (szJoinS_any _ _ _ _ _ (by omega) (by omega) (by unfold maxLen at *; omega)).mono ?_; rintro e w' ⟨rfl, rfl⟩))
  refine (eqJoinS_any _ _ n1 _ _ xs1 _ hO8.rd hO12.rd (by omega)).mono ?_
  rintro e w13 ⟨rfl, hb13⟩
  have hz13 := hb13.size
  have hB13 : Below W.heap.size W w13 := hB12.trans (hb13.mono hs12)
  have hs13 : W.heap.size ≤ w13.heap.size := hB13.size
  replace hO6 := hO6.below hb13
  replace hO8 := hO8.below hb13
  replace hO12 := hO12.below hb13
  replace hR0 := hR0.below hb13
  replace hR1 := hR1.below hb13
  replace qbx_0 := keepcell qbx_0 hb13
  replace qbx_1 := keepcell qbx_1 hb13
  replace qbx_2 := keepcell qbx_2 hb13
  replace qbx6_0 := keepcell qbx6_0 hb13
  replace qbx6_1 := keepcell qbx6_1 hb13
  replace qbx6_2 := keepcell qbx6_2 hb13
  clear hb13
  go_wp2_with (first | (go_at_call 33; refine (szJoinS_any _ _ _ _ _ (by omega) (by omega) (by unfold maxLen at *; omega)).mono ?_; rintro e w' ⟨rfl, rfl⟩))
  go_ret
  exact ⟨rfl, hB13⟩

end Go.Proofs.Ytmjdgplkcocgmaa
