/-
  The walks of the exact laws of this seat, out of the contracts.
-/
import Derived.Test.YtmjdgplkcocgmaaUnbA
import Derived.Test.YtmjdgplkcocgmaaFlatLayout
import Derived.Test.YtmjdgplkcocgmaaFlatJoin
set_option linter.unusedVariables false
namespace Go.Proofs.Ytmjdgplkcocgmaa
open Go.RowKit

set_option maxRecDepth 100000 in
set_option maxHeartbeats 2000000 in
theorem walk_FnExactUnitBox (a0_0 a0_1 : Int) (A0 : Option Addr) (n0 c0 : Nat) (xs0 : List Patch) (A1 : Option Addr) (n1 c1 : Nat) (xs1 : List Join) (a2 : Int) (W : World) (hw0_0 : (Lit.int .i64 a0_0).wf = true) (hw0_1 : (Lit.int .i64 a0_1).wf = true) (hk0_ : n0 ≤ c0) (hm0_ : c0 ≤ maxLen) (hR0 : Rd W A0 n0 5 xs0 patchC) (hk1_ : n1 ≤ c1) (hm1_ : c1 ≤ maxLen) (hR1 : Rd W A1 n1 3 xs1 joinC) (hw2 : (Lit.int .i64 a2).wf = true) :
    Calls Try.prog 7 #[.agg #[.int .i64 a0_0, .int .i64 a0_1, .slice A0 n0 c0], .slice A1 n1 c1, .int .i64 a2] W fun e w' => e = .returned (.bool true) ∧ Below W.heap.size W w' := by
  clear hw0_0 hw0_1 hw2
  rcases (szLeft_cases (1048576) n0) with ⟨hl0, hs0⟩ | ⟨hl0, hs0⟩
  · go_enter Try.func7, Try.ntmps7
    go_wp2_with (first | (go_at_call 15; refine (szLayout_any _ _ _ _ _ _ _ (by omega) (by omega) (by unfold maxLen at *; omega)).mono ?_; rintro e wz ⟨rfl, hbz⟩; have hqz := hbz.size; (try simp at hqz)) | (go_at_call 33; refine (szJoinS_any _ _ _ _ _ (by omega) (by omega) (by unfold maxLen at *; omega)).mono ?_; rintro e w' ⟨rfl, rfl⟩))
    go_ret
    exact ⟨rfl, by (repeat (first | exact Below.refl _ _ | assumption | (refine Below.drew ?_) | (refine below_drewN ?_ _) | (refine Below.alloc ?_ (by first | exact Nat.le_refl _ | (simp; done) | (simp; omega) | omega) _) | (refine Below.setCell ?_ (by first | exact Nat.le_refl _ | (simp; done) | (simp; omega) | omega) _) | (refine Below.trans ?_ (Below.mono (by assumption) (by first | exact Nat.le_refl _ | (simp; done) | (simp; omega) | omega)))))⟩
  rcases (szLeft_cases (1048576 - (n0 : Int)) n1) with ⟨hl1, hs1⟩ | ⟨hl1, hs1⟩
  · go_enter Try.func7, Try.ntmps7
    go_wp2_with (first | (go_at_call 15; refine (szLayout_any _ _ _ _ _ _ _ (by omega) (by omega) (by unfold maxLen at *; omega)).mono ?_; rintro e wz ⟨rfl, hbz⟩; have hqz := hbz.size; (try simp at hqz)) | (go_at_call 33; refine (szJoinS_any _ _ _ _ _ (by omega) (by omega) (by unfold maxLen at *; omega)).mono ?_; rintro e w' ⟨rfl, rfl⟩))
    go_ret
    exact ⟨rfl, by (repeat (first | exact Below.refl _ _ | assumption | (refine Below.drew ?_) | (refine below_drewN ?_ _) | (refine Below.alloc ?_ (by first | exact Nat.le_refl _ | (simp; done) | (simp; omega) | omega) _) | (refine Below.setCell ?_ (by first | exact Nat.le_refl _ | (simp; done) | (simp; omega) | omega) _) | (refine Below.trans ?_ (Below.mono (by assumption) (by first | exact Nat.le_refl _ | (simp; done) | (simp; omega) | omega)))))⟩
  have hR10_ := hR1
  have hR00_ := hR0
  go_enter Try.func7, Try.ntmps7
  go_wp2_with fail
  obtain ⟨bx, hbx⟩ : ∃ b, Hid (b = W.heap.size) := ⟨_, rfl⟩
  have qbx_0 : (W.alloc (.cells #[.int .i64 a0_0, .int .i64 a0_1, .slice A0 n0 c0] 24)).cell? ⟨bx, 0, none⟩ = some (.int .i64 a0_0) := by rw [hbx.out, cell_of_row _ _ _ _ _ _ (heap_alloc_new W _)]; rfl
  have qbx_1 : (W.alloc (.cells #[.int .i64 a0_0, .int .i64 a0_1, .slice A0 n0 c0] 24)).cell? ⟨bx, 1, none⟩ = some (.int .i64 a0_1) := by rw [hbx.out, cell_of_row _ _ _ _ _ _ (heap_alloc_new W _)]; rfl
  have qbx_2 : (W.alloc (.cells #[.int .i64 a0_0, .int .i64 a0_1, .slice A0 n0 c0] 24)).cell? ⟨bx, 2, none⟩ = some (.slice A0 n0 c0) := by rw [hbx.out, cell_of_row _ _ _ _ _ _ (heap_alloc_new W _)]; rfl
  have hb1 : Below W.heap.size W (W.alloc (.cells #[.int .i64 a0_0, .int .i64 a0_1, .slice A0 n0 c0] 24)) := (Below.refl _ _).alloc (Nat.le_refl _) _
  have hz1 : W.heap.size < (W.alloc (.cells #[.int .i64 a0_0, .int .i64 a0_1, .slice A0 n0 c0] 24)).heap.size := by simp
  rw [← hbx.out]
  generalize (W.alloc (.cells #[.int .i64 a0_0, .int .i64 a0_1, .slice A0 n0 c0] 24)) = w1 at qbx_0 qbx_1 qbx_2 hb1 hz1 ⊢
  have hB1 : Below W.heap.size W w1 := hb1
  have hs1 : W.heap.size ≤ w1.heap.size := hB1.size
  replace hR0 := hR0.below hb1
  replace hR1 := hR1.below hb1
  refine (szLayout_any _ _ _ _ _ _ _ (by omega) (by omega) (by unfold maxLen at *; omega)).mono ?_
  rintro e w2 ⟨rfl, hb2⟩
  have hz2 := hb2.size
  have hB2 : Below W.heap.size W w2 := hB1.trans (hb2.mono hs1)
  have hs2 : W.heap.size ≤ w2.heap.size := hB2.size
  replace hR0 := hR0.below hb2
  replace hR1 := hR1.below hb2
  replace qbx_0 := keepcell qbx_0 hb2
  replace qbx_1 := keepcell qbx_1 hb2
  replace qbx_2 := keepcell qbx_2 hb2
  clear hb2
  have hn0_ : n0 ≤ 1048576 := by omega
  have hn1_ : n1 ≤ 1048576 := by omega
  go_wp2_with (first | (go_at_call 33; refine (szJoinS_any _ _ _ _ _ (by omega) (by omega) (by unfold maxLen at *; omega)).mono ?_; rintro e w' ⟨rfl, rfl⟩))
  refine (toLayout_any a0_0 a0_1 A0 n0 c0 xs0 _ hR0 (by omega)).mono ?_
  rintro e w3 ⟨A_3, c_3, rfl, hk_3, hO3, hb3⟩
  have hz3 := hb3.size
  have hB3 : Below W.heap.size W w3 := hB2.trans (hb3.mono hs2)
  have hs3 : W.heap.size ≤ w3.heap.size := hB3.size
  replace hR0 := hR0.below hb3
  replace hR1 := hR1.below hb3
  replace qbx_0 := keepcell qbx_0 hb3
  replace qbx_1 := keepcell qbx_1 hb3
  replace qbx_2 := keepcell qbx_2 hb3
  clear hb3
  go_wp2_with (first | (go_at_call 33; refine (szJoinS_any _ _ _ _ _ (by omega) (by omega) (by unfold maxLen at *; omega)).mono ?_; rintro e w' ⟨rfl, rfl⟩))
  refine (toJoinS_any A1 n1 c1 xs1 _ hR1 (by omega)).mono ?_
  rintro e w4 ⟨A_4, c_4, rfl, hk_4, hO4, hb4⟩
  have hz4 := hb4.size
  have hB4 : Below W.heap.size W w4 := hB3.trans (hb4.mono hs3)
  have hs4 : W.heap.size ≤ w4.heap.size := hB4.size
  replace hO3 := hO3.below hb4
  replace hR0 := hR0.below hb4
  replace hR1 := hR1.below hb4
  replace qbx_0 := keepcell qbx_0 hb4
  replace qbx_1 := keepcell qbx_1 hb4
  replace qbx_2 := keepcell qbx_2 hb4
  clear hb4
  go_wp2_with (first | (go_at_call 33; refine (szJoinS_any _ _ _ _ _ (by omega) (by omega) (by unfold maxLen at *; omega)).mono ?_; rintro e w' ⟨rfl, rfl⟩))
  refine (unitS_any _ _ _ _ _ xs0 _ _ _ xs1 a2 _ (hO3.rd) (by omega) (hO4.rd) (by omega)).mono ?_
  rintro e w5 ⟨rfl, hb5⟩
  have hz5 := hb5.size
  have hB5 : Below W.heap.size W w5 := hB4.trans (hb5.mono hs4)
  have hs5 : W.heap.size ≤ w5.heap.size := hB5.size
  replace hO3 := hO3.below hb5
  replace hO4 := hO4.below hb5
  replace hR0 := hR0.below hb5
  replace hR1 := hR1.below hb5
  replace qbx_0 := keepcell qbx_0 hb5
  replace qbx_1 := keepcell qbx_1 hb5
  replace qbx_2 := keepcell qbx_2 hb5
  clear hb5
  have qbx_0_n := keepcell qbx_0 ((Below.refl _ _).alloc (Nat.le_refl _) (.cells #[.int .i64 (unitBox a0_0 a0_1 xs0 xs1 a2).X, .int .i64 (unitBox a0_0 a0_1 xs0 xs1 a2).Y, .int .i64 (unitBox a0_0 a0_1 xs0 xs1 a2).W, .int .i64 (unitBox a0_0 a0_1 xs0 xs1 a2).H, .int .i64 (unitBox a0_0 a0_1 xs0 xs1 a2).Color] 44))
  have qbx_1_n := keepcell qbx_1 ((Below.refl _ _).alloc (Nat.le_refl _) (.cells #[.int .i64 (unitBox a0_0 a0_1 xs0 xs1 a2).X, .int .i64 (unitBox a0_0 a0_1 xs0 xs1 a2).Y, .int .i64 (unitBox a0_0 a0_1 xs0 xs1 a2).W, .int .i64 (unitBox a0_0 a0_1 xs0 xs1 a2).H, .int .i64 (unitBox a0_0 a0_1 xs0 xs1 a2).Color] 44))
  have qbx_2_n := keepcell qbx_2 ((Below.refl _ _).alloc (Nat.le_refl _) (.cells #[.int .i64 (unitBox a0_0 a0_1 xs0 xs1 a2).X, .int .i64 (unitBox a0_0 a0_1 xs0 xs1 a2).Y, .int .i64 (unitBox a0_0 a0_1 xs0 xs1 a2).W, .int .i64 (unitBox a0_0 a0_1 xs0 xs1 a2).H, .int .i64 (unitBox a0_0 a0_1 xs0 xs1 a2).Color] 44))
  go_wp2_with fail
  clear qbx_0_n qbx_1_n qbx_2_n
  obtain ⟨pw, hpw⟩ : ∃ b, Hid (b = w5.heap.size) := ⟨_, rfl⟩
  have qpw_0 : (w5.alloc (.cells #[.int .i64 (unitBox a0_0 a0_1 xs0 xs1 a2).X, .int .i64 (unitBox a0_0 a0_1 xs0 xs1 a2).Y, .int .i64 (unitBox a0_0 a0_1 xs0 xs1 a2).W, .int .i64 (unitBox a0_0 a0_1 xs0 xs1 a2).H, .int .i64 (unitBox a0_0 a0_1 xs0 xs1 a2).Color] 44)).cell? ⟨pw, 0, none⟩ = some (.int .i64 (unitBox a0_0 a0_1 xs0 xs1 a2).X) := by rw [hpw.out, cell_of_row _ _ _ _ _ _ (heap_alloc_new w5 _)]; rfl
  have qpw_1 : (w5.alloc (.cells #[.int .i64 (unitBox a0_0 a0_1 xs0 xs1 a2).X, .int .i64 (unitBox a0_0 a0_1 xs0 xs1 a2).Y, .int .i64 (unitBox a0_0 a0_1 xs0 xs1 a2).W, .int .i64 (unitBox a0_0 a0_1 xs0 xs1 a2).H, .int .i64 (unitBox a0_0 a0_1 xs0 xs1 a2).Color] 44)).cell? ⟨pw, 1, none⟩ = some (.int .i64 (unitBox a0_0 a0_1 xs0 xs1 a2).Y) := by rw [hpw.out, cell_of_row _ _ _ _ _ _ (heap_alloc_new w5 _)]; rfl
  have qpw_2 : (w5.alloc (.cells #[.int .i64 (unitBox a0_0 a0_1 xs0 xs1 a2).X, .int .i64 (unitBox a0_0 a0_1 xs0 xs1 a2).Y, .int .i64 (unitBox a0_0 a0_1 xs0 xs1 a2).W, .int .i64 (unitBox a0_0 a0_1 xs0 xs1 a2).H, .int .i64 (unitBox a0_0 a0_1 xs0 xs1 a2).Color] 44)).cell? ⟨pw, 2, none⟩ = some (.int .i64 (unitBox a0_0 a0_1 xs0 xs1 a2).W) := by rw [hpw.out, cell_of_row _ _ _ _ _ _ (heap_alloc_new w5 _)]; rfl
  have qpw_3 : (w5.alloc (.cells #[.int .i64 (unitBox a0_0 a0_1 xs0 xs1 a2).X, .int .i64 (unitBox a0_0 a0_1 xs0 xs1 a2).Y, .int .i64 (unitBox a0_0 a0_1 xs0 xs1 a2).W, .int .i64 (unitBox a0_0 a0_1 xs0 xs1 a2).H, .int .i64 (unitBox a0_0 a0_1 xs0 xs1 a2).Color] 44)).cell? ⟨pw, 3, none⟩ = some (.int .i64 (unitBox a0_0 a0_1 xs0 xs1 a2).H) := by rw [hpw.out, cell_of_row _ _ _ _ _ _ (heap_alloc_new w5 _)]; rfl
  have qpw_4 : (w5.alloc (.cells #[.int .i64 (unitBox a0_0 a0_1 xs0 xs1 a2).X, .int .i64 (unitBox a0_0 a0_1 xs0 xs1 a2).Y, .int .i64 (unitBox a0_0 a0_1 xs0 xs1 a2).W, .int .i64 (unitBox a0_0 a0_1 xs0 xs1 a2).H, .int .i64 (unitBox a0_0 a0_1 xs0 xs1 a2).Color] 44)).cell? ⟨pw, 4, none⟩ = some (.int .i64 (unitBox a0_0 a0_1 xs0 xs1 a2).Color) := by rw [hpw.out, cell_of_row _ _ _ _ _ _ (heap_alloc_new w5 _)]; rfl
  have hb6 : Below w5.heap.size w5 (w5.alloc (.cells #[.int .i64 (unitBox a0_0 a0_1 xs0 xs1 a2).X, .int .i64 (unitBox a0_0 a0_1 xs0 xs1 a2).Y, .int .i64 (unitBox a0_0 a0_1 xs0 xs1 a2).W, .int .i64 (unitBox a0_0 a0_1 xs0 xs1 a2).H, .int .i64 (unitBox a0_0 a0_1 xs0 xs1 a2).Color] 44)) := (Below.refl _ _).alloc (Nat.le_refl _) _
  have hz6 : w5.heap.size < (w5.alloc (.cells #[.int .i64 (unitBox a0_0 a0_1 xs0 xs1 a2).X, .int .i64 (unitBox a0_0 a0_1 xs0 xs1 a2).Y, .int .i64 (unitBox a0_0 a0_1 xs0 xs1 a2).W, .int .i64 (unitBox a0_0 a0_1 xs0 xs1 a2).H, .int .i64 (unitBox a0_0 a0_1 xs0 xs1 a2).Color] 44)).heap.size := by simp
  rw [← hpw.out]
  generalize (w5.alloc (.cells #[.int .i64 (unitBox a0_0 a0_1 xs0 xs1 a2).X, .int .i64 (unitBox a0_0 a0_1 xs0 xs1 a2).Y, .int .i64 (unitBox a0_0 a0_1 xs0 xs1 a2).W, .int .i64 (unitBox a0_0 a0_1 xs0 xs1 a2).H, .int .i64 (unitBox a0_0 a0_1 xs0 xs1 a2).Color] 44)) = w6 at qpw_0 qpw_1 qpw_2 qpw_3 qpw_4 hb6 hz6 ⊢
  have hB6 : Below W.heap.size W w6 := hB5.trans (hb6.mono hs5)
  have hs6 : W.heap.size ≤ w6.heap.size := hB6.size
  replace hO3 := hO3.below hb6
  replace hO4 := hO4.below hb6
  replace hR0 := hR0.below hb6
  replace hR1 := hR1.below hb6
  replace qbx_0 := keepcell qbx_0 hb6
  replace qbx_1 := keepcell qbx_1 hb6
  replace qbx_2 := keepcell qbx_2 hb6
  refine (toLayout_any a0_0 a0_1 A0 n0 c0 xs0 _ hR0 (by omega)).mono ?_
  rintro e w7 ⟨A_7, c_7, rfl, hk_7, hO7, hb7⟩
  have hz7 := hb7.size
  have hB7 : Below W.heap.size W w7 := hB6.trans (hb7.mono hs6)
  have hs7 : W.heap.size ≤ w7.heap.size := hB7.size
  replace hR0 := hR0.below hb7
  replace hR1 := hR1.below hb7
  replace qbx_0 := keepcell qbx_0 hb7
  replace qbx_1 := keepcell qbx_1 hb7
  replace qbx_2 := keepcell qbx_2 hb7
  replace qpw_0 := keepcell qpw_0 hb7
  replace qpw_1 := keepcell qpw_1 hb7
  replace qpw_2 := keepcell qpw_2 hb7
  replace qpw_3 := keepcell qpw_3 hb7
  replace qpw_4 := keepcell qpw_4 hb7
  clear hb7
  go_wp2_with fail
  obtain ⟨bx7, hbx7⟩ : ∃ b, Hid (b = w7.heap.size) := ⟨_, rfl⟩
  have qbx7_0 : (w7.alloc (.cells #[.int .i64 a0_0, .int .i64 a0_1, .slice A_7 n0 c_7] 30)).cell? ⟨bx7, 0, none⟩ = some (.int .i64 a0_0) := by rw [hbx7.out, cell_of_row _ _ _ _ _ _ (heap_alloc_new w7 _)]; rfl
  have qbx7_1 : (w7.alloc (.cells #[.int .i64 a0_0, .int .i64 a0_1, .slice A_7 n0 c_7] 30)).cell? ⟨bx7, 1, none⟩ = some (.int .i64 a0_1) := by rw [hbx7.out, cell_of_row _ _ _ _ _ _ (heap_alloc_new w7 _)]; rfl
  have qbx7_2 : (w7.alloc (.cells #[.int .i64 a0_0, .int .i64 a0_1, .slice A_7 n0 c_7] 30)).cell? ⟨bx7, 2, none⟩ = some (.slice A_7 n0 c_7) := by rw [hbx7.out, cell_of_row _ _ _ _ _ _ (heap_alloc_new w7 _)]; rfl
  have hb8 : Below w7.heap.size w7 (w7.alloc (.cells #[.int .i64 a0_0, .int .i64 a0_1, .slice A_7 n0 c_7] 30)) := (Below.refl _ _).alloc (Nat.le_refl _) _
  have hz8 : w7.heap.size < (w7.alloc (.cells #[.int .i64 a0_0, .int .i64 a0_1, .slice A_7 n0 c_7] 30)).heap.size := by simp
  rw [← hbx7.out]
  generalize (w7.alloc (.cells #[.int .i64 a0_0, .int .i64 a0_1, .slice A_7 n0 c_7] 30)) = w8 at qbx7_0 qbx7_1 qbx7_2 hb8 hz8 ⊢
  have hB8 : Below W.heap.size W w8 := hB7.trans (hb8.mono hs7)
  have hs8 : W.heap.size ≤ w8.heap.size := hB8.size
  replace hO7 := hO7.below hb8
  replace hR0 := hR0.below hb8
  replace hR1 := hR1.below hb8
  replace qbx_0 := keepcell qbx_0 hb8
  replace qbx_1 := keepcell qbx_1 hb8
  replace qbx_2 := keepcell qbx_2 hb8
  replace qpw_0 := keepcell qpw_0 hb8
  replace qpw_1 := keepcell qpw_1 hb8
  replace qpw_2 := keepcell qpw_2 hb8
  replace qpw_3 := keepcell qpw_3 hb8
  replace qpw_4 := keepcell qpw_4 hb8
  refine (toJoinS_any A1 n1 c1 xs1 _ hR1 (by omega)).mono ?_
  rintro e w9 ⟨A_9, c_9, rfl, hk_9, hO9, hb9⟩
  have hz9 := hb9.size
  have hB9 : Below W.heap.size W w9 := hB8.trans (hb9.mono hs8)
  have hs9 : W.heap.size ≤ w9.heap.size := hB9.size
  replace hO7 := hO7.below hb9
  replace hR0 := hR0.below hb9
  replace hR1 := hR1.below hb9
  replace qbx_0 := keepcell qbx_0 hb9
  replace qbx_1 := keepcell qbx_1 hb9
  replace qbx_2 := keepcell qbx_2 hb9
  replace qpw_0 := keepcell qpw_0 hb9
  replace qpw_1 := keepcell qpw_1 hb9
  replace qpw_2 := keepcell qpw_2 hb9
  replace qpw_3 := keepcell qpw_3 hb9
  replace qpw_4 := keepcell qpw_4 hb9
  replace qbx7_0 := keepcell qbx7_0 hb9
  replace qbx7_1 := keepcell qbx7_1 hb9
  replace qbx7_2 := keepcell qbx7_2 hb9
  clear hb9
  go_wp2_with (first | (go_at_call 33; refine (szJoinS_any _ _ _ _ _ (by omega) (by omega) (by unfold maxLen at *; omega)).mono ?_; rintro e w' ⟨rfl, rfl⟩))
  refine (unitI_any _ _ _ _ _ xs0 _ _ _ xs1 a2 _ (hO7.rd) (by omega) (hO9.rd) (by omega)).mono ?_
  rintro e w10 ⟨rfl, hb10⟩
  have hz10 := hb10.size
  have hB10 : Below W.heap.size W w10 := hB9.trans (hb10.mono hs9)
  have hs10 : W.heap.size ≤ w10.heap.size := hB10.size
  replace hO7 := hO7.below hb10
  replace hO9 := hO9.below hb10
  replace hR0 := hR0.below hb10
  replace hR1 := hR1.below hb10
  replace qbx_0 := keepcell qbx_0 hb10
  replace qbx_1 := keepcell qbx_1 hb10
  replace qbx_2 := keepcell qbx_2 hb10
  replace qpw_0 := keepcell qpw_0 hb10
  replace qpw_1 := keepcell qpw_1 hb10
  replace qpw_2 := keepcell qpw_2 hb10
  replace qpw_3 := keepcell qpw_3 hb10
  replace qpw_4 := keepcell qpw_4 hb10
  replace qbx7_0 := keepcell qbx7_0 hb10
  replace qbx7_1 := keepcell qbx7_1 hb10
  replace qbx7_2 := keepcell qbx7_2 hb10
  clear hb10
  have qbx_0_n := keepcell qbx_0 ((Below.refl _ _).alloc (Nat.le_refl _) (.cells #[.int .i64 (unitBox a0_0 a0_1 xs0 xs1 a2).X, .int .i64 (unitBox a0_0 a0_1 xs0 xs1 a2).Y, .int .i64 (unitBox a0_0 a0_1 xs0 xs1 a2).W, .int .i64 (unitBox a0_0 a0_1 xs0 xs1 a2).H, .int .i64 (unitBox a0_0 a0_1 xs0 xs1 a2).Color] 44))
  have qbx_1_n := keepcell qbx_1 ((Below.refl _ _).alloc (Nat.le_refl _) (.cells #[.int .i64 (unitBox a0_0 a0_1 xs0 xs1 a2).X, .int .i64 (unitBox a0_0 a0_1 xs0 xs1 a2).Y, .int .i64 (unitBox a0_0 a0_1 xs0 xs1 a2).W, .int .i64 (unitBox a0_0 a0_1 xs0 xs1 a2).H, .int .i64 (unitBox a0_0 a0_1 xs0 xs1 a2).Color] 44))
  have qbx_2_n := keepcell qbx_2 ((Below.refl _ _).alloc (Nat.le_refl _) (.cells #[.int .i64 (unitBox a0_0 a0_1 xs0 xs1 a2).X, .int .i64 (unitBox a0_0 a0_1 xs0 xs1 a2).Y, .int .i64 (unitBox a0_0 a0_1 xs0 xs1 a2).W, .int .i64 (unitBox a0_0 a0_1 xs0 xs1 a2).H, .int .i64 (unitBox a0_0 a0_1 xs0 xs1 a2).Color] 44))
  have qpw_0_n := keepcell qpw_0 ((Below.refl _ _).alloc (Nat.le_refl _) (.cells #[.int .i64 (unitBox a0_0 a0_1 xs0 xs1 a2).X, .int .i64 (unitBox a0_0 a0_1 xs0 xs1 a2).Y, .int .i64 (unitBox a0_0 a0_1 xs0 xs1 a2).W, .int .i64 (unitBox a0_0 a0_1 xs0 xs1 a2).H, .int .i64 (unitBox a0_0 a0_1 xs0 xs1 a2).Color] 44))
  have qpw_1_n := keepcell qpw_1 ((Below.refl _ _).alloc (Nat.le_refl _) (.cells #[.int .i64 (unitBox a0_0 a0_1 xs0 xs1 a2).X, .int .i64 (unitBox a0_0 a0_1 xs0 xs1 a2).Y, .int .i64 (unitBox a0_0 a0_1 xs0 xs1 a2).W, .int .i64 (unitBox a0_0 a0_1 xs0 xs1 a2).H, .int .i64 (unitBox a0_0 a0_1 xs0 xs1 a2).Color] 44))
  have qpw_2_n := keepcell qpw_2 ((Below.refl _ _).alloc (Nat.le_refl _) (.cells #[.int .i64 (unitBox a0_0 a0_1 xs0 xs1 a2).X, .int .i64 (unitBox a0_0 a0_1 xs0 xs1 a2).Y, .int .i64 (unitBox a0_0 a0_1 xs0 xs1 a2).W, .int .i64 (unitBox a0_0 a0_1 xs0 xs1 a2).H, .int .i64 (unitBox a0_0 a0_1 xs0 xs1 a2).Color] 44))
  have qpw_3_n := keepcell qpw_3 ((Below.refl _ _).alloc (Nat.le_refl _) (.cells #[.int .i64 (unitBox a0_0 a0_1 xs0 xs1 a2).X, .int .i64 (unitBox a0_0 a0_1 xs0 xs1 a2).Y, .int .i64 (unitBox a0_0 a0_1 xs0 xs1 a2).W, .int .i64 (unitBox a0_0 a0_1 xs0 xs1 a2).H, .int .i64 (unitBox a0_0 a0_1 xs0 xs1 a2).Color] 44))
  have qpw_4_n := keepcell qpw_4 ((Below.refl _ _).alloc (Nat.le_refl _) (.cells #[.int .i64 (unitBox a0_0 a0_1 xs0 xs1 a2).X, .int .i64 (unitBox a0_0 a0_1 xs0 xs1 a2).Y, .int .i64 (unitBox a0_0 a0_1 xs0 xs1 a2).W, .int .i64 (unitBox a0_0 a0_1 xs0 xs1 a2).H, .int .i64 (unitBox a0_0 a0_1 xs0 xs1 a2).Color] 44))
  have qbx7_0_n := keepcell qbx7_0 ((Below.refl _ _).alloc (Nat.le_refl _) (.cells #[.int .i64 (unitBox a0_0 a0_1 xs0 xs1 a2).X, .int .i64 (unitBox a0_0 a0_1 xs0 xs1 a2).Y, .int .i64 (unitBox a0_0 a0_1 xs0 xs1 a2).W, .int .i64 (unitBox a0_0 a0_1 xs0 xs1 a2).H, .int .i64 (unitBox a0_0 a0_1 xs0 xs1 a2).Color] 44))
  have qbx7_1_n := keepcell qbx7_1 ((Below.refl _ _).alloc (Nat.le_refl _) (.cells #[.int .i64 (unitBox a0_0 a0_1 xs0 xs1 a2).X, .int .i64 (unitBox a0_0 a0_1 xs0 xs1 a2).Y, .int .i64 (unitBox a0_0 a0_1 xs0 xs1 a2).W, .int .i64 (unitBox a0_0 a0_1 xs0 xs1 a2).H, .int .i64 (unitBox a0_0 a0_1 xs0 xs1 a2).Color] 44))
  have qbx7_2_n := keepcell qbx7_2 ((Below.refl _ _).alloc (Nat.le_refl _) (.cells #[.int .i64 (unitBox a0_0 a0_1 xs0 xs1 a2).X, .int .i64 (unitBox a0_0 a0_1 xs0 xs1 a2).Y, .int .i64 (unitBox a0_0 a0_1 xs0 xs1 a2).W, .int .i64 (unitBox a0_0 a0_1 xs0 xs1 a2).H, .int .i64 (unitBox a0_0 a0_1 xs0 xs1 a2).Color] 44))
  go_wp2_with fail
  clear qbx_0_n qbx_1_n qbx_2_n qpw_0_n qpw_1_n qpw_2_n qpw_3_n qpw_4_n qbx7_0_n qbx7_1_n qbx7_2_n
  obtain ⟨pg, hpg⟩ : ∃ b, Hid (b = w10.heap.size) := ⟨_, rfl⟩
  have qpg_0 : (w10.alloc (.cells #[.int .i64 (unitBox a0_0 a0_1 xs0 xs1 a2).X, .int .i64 (unitBox a0_0 a0_1 xs0 xs1 a2).Y, .int .i64 (unitBox a0_0 a0_1 xs0 xs1 a2).W, .int .i64 (unitBox a0_0 a0_1 xs0 xs1 a2).H, .int .i64 (unitBox a0_0 a0_1 xs0 xs1 a2).Color] 44)).cell? ⟨pg, 0, none⟩ = some (.int .i64 (unitBox a0_0 a0_1 xs0 xs1 a2).X) := by rw [hpg.out, cell_of_row _ _ _ _ _ _ (heap_alloc_new w10 _)]; rfl
  have qpg_1 : (w10.alloc (.cells #[.int .i64 (unitBox a0_0 a0_1 xs0 xs1 a2).X, .int .i64 (unitBox a0_0 a0_1 xs0 xs1 a2).Y, .int .i64 (unitBox a0_0 a0_1 xs0 xs1 a2).W, .int .i64 (unitBox a0_0 a0_1 xs0 xs1 a2).H, .int .i64 (unitBox a0_0 a0_1 xs0 xs1 a2).Color] 44)).cell? ⟨pg, 1, none⟩ = some (.int .i64 (unitBox a0_0 a0_1 xs0 xs1 a2).Y) := by rw [hpg.out, cell_of_row _ _ _ _ _ _ (heap_alloc_new w10 _)]; rfl
  have qpg_2 : (w10.alloc (.cells #[.int .i64 (unitBox a0_0 a0_1 xs0 xs1 a2).X, .int .i64 (unitBox a0_0 a0_1 xs0 xs1 a2).Y, .int .i64 (unitBox a0_0 a0_1 xs0 xs1 a2).W, .int .i64 (unitBox a0_0 a0_1 xs0 xs1 a2).H, .int .i64 (unitBox a0_0 a0_1 xs0 xs1 a2).Color] 44)).cell? ⟨pg, 2, none⟩ = some (.int .i64 (unitBox a0_0 a0_1 xs0 xs1 a2).W) := by rw [hpg.out, cell_of_row _ _ _ _ _ _ (heap_alloc_new w10 _)]; rfl
  have qpg_3 : (w10.alloc (.cells #[.int .i64 (unitBox a0_0 a0_1 xs0 xs1 a2).X, .int .i64 (unitBox a0_0 a0_1 xs0 xs1 a2).Y, .int .i64 (unitBox a0_0 a0_1 xs0 xs1 a2).W, .int .i64 (unitBox a0_0 a0_1 xs0 xs1 a2).H, .int .i64 (unitBox a0_0 a0_1 xs0 xs1 a2).Color] 44)).cell? ⟨pg, 3, none⟩ = some (.int .i64 (unitBox a0_0 a0_1 xs0 xs1 a2).H) := by rw [hpg.out, cell_of_row _ _ _ _ _ _ (heap_alloc_new w10 _)]; rfl
  have qpg_4 : (w10.alloc (.cells #[.int .i64 (unitBox a0_0 a0_1 xs0 xs1 a2).X, .int .i64 (unitBox a0_0 a0_1 xs0 xs1 a2).Y, .int .i64 (unitBox a0_0 a0_1 xs0 xs1 a2).W, .int .i64 (unitBox a0_0 a0_1 xs0 xs1 a2).H, .int .i64 (unitBox a0_0 a0_1 xs0 xs1 a2).Color] 44)).cell? ⟨pg, 4, none⟩ = some (.int .i64 (unitBox a0_0 a0_1 xs0 xs1 a2).Color) := by rw [hpg.out, cell_of_row _ _ _ _ _ _ (heap_alloc_new w10 _)]; rfl
  have hb11 : Below w10.heap.size w10 (w10.alloc (.cells #[.int .i64 (unitBox a0_0 a0_1 xs0 xs1 a2).X, .int .i64 (unitBox a0_0 a0_1 xs0 xs1 a2).Y, .int .i64 (unitBox a0_0 a0_1 xs0 xs1 a2).W, .int .i64 (unitBox a0_0 a0_1 xs0 xs1 a2).H, .int .i64 (unitBox a0_0 a0_1 xs0 xs1 a2).Color] 44)) := (Below.refl _ _).alloc (Nat.le_refl _) _
  have hz11 : w10.heap.size < (w10.alloc (.cells #[.int .i64 (unitBox a0_0 a0_1 xs0 xs1 a2).X, .int .i64 (unitBox a0_0 a0_1 xs0 xs1 a2).Y, .int .i64 (unitBox a0_0 a0_1 xs0 xs1 a2).W, .int .i64 (unitBox a0_0 a0_1 xs0 xs1 a2).H, .int .i64 (unitBox a0_0 a0_1 xs0 xs1 a2).Color] 44)).heap.size := by simp
  rw [← hpg.out]
  generalize (w10.alloc (.cells #[.int .i64 (unitBox a0_0 a0_1 xs0 xs1 a2).X, .int .i64 (unitBox a0_0 a0_1 xs0 xs1 a2).Y, .int .i64 (unitBox a0_0 a0_1 xs0 xs1 a2).W, .int .i64 (unitBox a0_0 a0_1 xs0 xs1 a2).H, .int .i64 (unitBox a0_0 a0_1 xs0 xs1 a2).Color] 44)) = w11 at qpg_0 qpg_1 qpg_2 qpg_3 qpg_4 hb11 hz11 ⊢
  have hB11 : Below W.heap.size W w11 := hB10.trans (hb11.mono hs10)
  have hs11 : W.heap.size ≤ w11.heap.size := hB11.size
  replace hO7 := hO7.below hb11
  replace hO9 := hO9.below hb11
  replace hR0 := hR0.below hb11
  replace hR1 := hR1.below hb11
  replace qbx_0 := keepcell qbx_0 hb11
  replace qbx_1 := keepcell qbx_1 hb11
  replace qbx_2 := keepcell qbx_2 hb11
  replace qpw_0 := keepcell qpw_0 hb11
  replace qpw_1 := keepcell qpw_1 hb11
  replace qpw_2 := keepcell qpw_2 hb11
  replace qpw_3 := keepcell qpw_3 hb11
  replace qpw_4 := keepcell qpw_4 hb11
  replace qbx7_0 := keepcell qbx7_0 hb11
  replace qbx7_1 := keepcell qbx7_1 hb11
  replace qbx7_2 := keepcell qbx7_2 hb11
  refine (eqPatch_any _ _ _ _ _ _).mono ?_
  rintro e w12 ⟨rfl, hb12⟩
  have hz12 := hb12.size
  have hB12 : Below W.heap.size W w12 := hB11.trans (hb12.mono hs11)
  have hs12 : W.heap.size ≤ w12.heap.size := hB12.size
  replace hO7 := hO7.below hb12
  replace hO9 := hO9.below hb12
  replace hR0 := hR0.below hb12
  replace hR1 := hR1.below hb12
  replace qbx_0 := keepcell qbx_0 hb12
  replace qbx_1 := keepcell qbx_1 hb12
  replace qbx_2 := keepcell qbx_2 hb12
  replace qpw_0 := keepcell qpw_0 hb12
  replace qpw_1 := keepcell qpw_1 hb12
  replace qpw_2 := keepcell qpw_2 hb12
  replace qpw_3 := keepcell qpw_3 hb12
  replace qpw_4 := keepcell qpw_4 hb12
  replace qbx7_0 := keepcell qbx7_0 hb12
  replace qbx7_1 := keepcell qbx7_1 hb12
  replace qbx7_2 := keepcell qbx7_2 hb12
  replace qpg_0 := keepcell qpg_0 hb12
  replace qpg_1 := keepcell qpg_1 hb12
  replace qpg_2 := keepcell qpg_2 hb12
  replace qpg_3 := keepcell qpg_3 hb12
  replace qpg_4 := keepcell qpg_4 hb12
  clear hb12
  clear qpw_0
  clear qpw_1
  clear qpw_2
  clear qpw_3
  clear qpw_4
  clear qpg_0
  clear qpg_1
  clear qpg_2
  clear qpg_3
  clear qpg_4
  go_wp2_with (first | (go_at_call 33; refine (szJoinS_any _ _ _ _ _ (by omega) (by omega) (by unfold maxLen at *; omega)).mono ?_; rintro e w' ⟨rfl, rfl⟩))
  go_region_held3 (fun v => v.cell? ⟨bx, 0, none⟩ = some (.int .i64 a0_0) ∧ v.cell? ⟨bx, 1, none⟩ = some (.int .i64 a0_1) ∧ v.cell? ⟨bx, 2, none⟩ = some (.slice A0 n0 c0) ∧ v.cell? ⟨bx7, 0, none⟩ = some (.int .i64 a0_0) ∧ v.cell? ⟨bx7, 1, none⟩ = some (.int .i64 a0_1) ∧ v.cell? ⟨bx7, 2, none⟩ = some (.slice A_7 n0 c_7))
    (first | (go_split_ands; refine ⟨?_, ?_, ?_, ?_, ?_, ?_⟩ <;> first | (exact keepcell (by assumption) (by assumption)) | (go_keep)) | (go_keep))
    (first
      | (go_at_call 17; refine (toLayout_any a0_0 a0_1 A0 n0 c0 xs0 _ ?_ (by omega)).mono ?_; (first | exact hR0 | exact hR0.below ((Below.refl _ _).drew)); rintro e w13 ⟨A_13, c_13, rfl, hk_13, hO13, hb13⟩)
      | (go_at_call 20; refine (eqLayout_any _ _ _ _ n0 _ _ xs0 _ (Own.rd (Own.below hO7 (show Below w12.heap.size w12 w13 from ⟨hb13.os, hb13.tape, hb13.output, hb13.size, hb13.block⟩))) hO13.rd (by omega)).mono ?_; rintro e w14 ⟨rfl, hb14⟩))
  all_goals go_split_ands
  have hb13 : Below w12.heap.size w12 w13 := ⟨hb13.os, hb13.tape, hb13.output, hb13.size, hb13.block⟩
  have hz13 := hb13.size
  have hB13 : Below W.heap.size W w13 := hB12.trans (hb13.mono hs12)
  have hs13 : W.heap.size ≤ w13.heap.size := hB13.size
  replace hO7 := hO7.below hb13
  replace hO9 := hO9.below hb13
  replace hR0 := hR0.below hb13
  replace hR1 := hR1.below hb13
  replace qbx_0 := keepcell qbx_0 hb13
  replace qbx_1 := keepcell qbx_1 hb13
  replace qbx_2 := keepcell qbx_2 hb13
  replace qbx7_0 := keepcell qbx7_0 hb13
  replace qbx7_1 := keepcell qbx7_1 hb13
  replace qbx7_2 := keepcell qbx7_2 hb13
  clear hb13
  have hz14 := hb14.size
  have hB14 : Below W.heap.size W w14 := hB13.trans (hb14.mono hs13)
  have hs14 : W.heap.size ≤ w14.heap.size := hB14.size
  replace hO7 := hO7.below hb14
  replace hO9 := hO9.below hb14
  replace hR0 := hR0.below hb14
  replace hR1 := hR1.below hb14
  replace qbx_0 := keepcell qbx_0 hb14
  replace qbx_1 := keepcell qbx_1 hb14
  replace qbx_2 := keepcell qbx_2 hb14
  replace qbx7_0 := keepcell qbx7_0 hb14
  replace qbx7_1 := keepcell qbx7_1 hb14
  replace qbx7_2 := keepcell qbx7_2 hb14
  clear hb14
  go_wp2_with (first | (go_at_call 33; refine (szJoinS_any _ _ _ _ _ (by omega) (by omega) (by unfold maxLen at *; omega)).mono ?_; rintro e w' ⟨rfl, rfl⟩))
  refine (toJoinS_any A1 n1 c1 xs1 _ hR1 (by omega)).mono ?_
  rintro e w15 ⟨A_15, c_15, rfl, hk_15, hO15, hb15⟩
  have hz15 := hb15.size
  have hB15 : Below W.heap.size W w15 := hB14.trans (hb15.mono hs14)
  have hs15 : W.heap.size ≤ w15.heap.size := hB15.size
  replace hO7 := hO7.below hb15
  replace hO9 := hO9.below hb15
  replace hR0 := hR0.below hb15
  replace hR1 := hR1.below hb15
  replace qbx_0 := keepcell qbx_0 hb15
  replace qbx_1 := keepcell qbx_1 hb15
  replace qbx_2 := keepcell qbx_2 hb15
  replace qbx7_0 := keepcell qbx7_0 hb15
  replace qbx7_1 := keepcell qbx7_1 hb15
  replace qbx7_2 := keepcell qbx7_2 hb15
  clear hb15
  go_wp2_with (first | (go_at_call 33; refine (szJoinS_any _ _ _ _ _ (by omega) (by omega) (by unfold maxLen at *; omega)).mono ?_; rintro e w' ⟨rfl, rfl⟩))
  refine (eqJoinS_any _ _ n1 _ _ xs1 _ hO9.rd hO15.rd (by omega)).mono ?_
  rintro e w16 ⟨rfl, hb16⟩
  have hz16 := hb16.size
  have hB16 : Below W.heap.size W w16 := hB15.trans (hb16.mono hs15)
  have hs16 : W.heap.size ≤ w16.heap.size := hB16.size
  replace hO7 := hO7.below hb16
  replace hO9 := hO9.below hb16
  replace hO15 := hO15.below hb16
  replace hR0 := hR0.below hb16
  replace hR1 := hR1.below hb16
  replace qbx_0 := keepcell qbx_0 hb16
  replace qbx_1 := keepcell qbx_1 hb16
  replace qbx_2 := keepcell qbx_2 hb16
  replace qbx7_0 := keepcell qbx7_0 hb16
  replace qbx7_1 := keepcell qbx7_1 hb16
  replace qbx7_2 := keepcell qbx7_2 hb16
  clear hb16
  go_wp2_with (first | (go_at_call 33; refine (szJoinS_any _ _ _ _ _ (by omega) (by omega) (by unfold maxLen at *; omega)).mono ?_; rintro e w' ⟨rfl, rfl⟩))
  go_ret
  exact ⟨rfl, hB16⟩

end Go.Proofs.Ytmjdgplkcocgmaa
