/-
  The walks of the exact laws of this seat, out of the contracts.
-/
import Derived.Test.YtmjdgplkcocgmaaKnoK
import Derived.Test.YtmjdgplkcocgmaaFlatLayout
set_option linter.unusedVariables false
namespace Go.Proofs.Ytmjdgplkcocgmaa
open Go.RowKit

set_option maxRecDepth 100000 in
set_option maxHeartbeats 2000000 in
theorem walk_FnExactCountSeams (a0_0 a0_1 : Int) (A0 : Option Addr) (n0 c0 : Nat) (xs0 : List Patch) (W : World) (hw0_0 : (Lit.int .i64 a0_0).wf = true) (hw0_1 : (Lit.int .i64 a0_1).wf = true) (hk0_ : n0 ≤ c0) (hm0_ : c0 ≤ maxLen) (hR0 : Rd W A0 n0 5 xs0 patchC) :
    Calls Try.prog 9 #[.agg #[.int .i64 a0_0, .int .i64 a0_1, .slice A0 n0 c0]] W fun e w' => e = .returned (.bool true) ∧ Below W.heap.size W w' := by
  clear hw0_0 hw0_1
  rcases (szLeft_cases (1048576) n0) with ⟨hl0, hs0⟩ | ⟨hl0, hs0⟩
  · go_enter Try.func9, Try.ntmps9
    go_wp2_with (first | (go_at_call 15; refine (szLayout_any _ _ _ _ _ _ _ (by omega) (by omega) (by unfold maxLen at *; omega)).mono ?_; rintro e wz ⟨rfl, hbz⟩; have hqz := hbz.size; (try simp at hqz)))
    go_ret
    exact ⟨rfl, by (repeat (first | exact Below.refl _ _ | assumption | (refine Below.drew ?_) | (refine below_drewN ?_ _) | (refine Below.alloc ?_ (by first | exact Nat.le_refl _ | (simp; done) | (simp; omega) | omega) _) | (refine Below.setCell ?_ (by first | exact Nat.le_refl _ | (simp; done) | (simp; omega) | omega) _) | (refine Below.trans ?_ (Below.mono (by assumption) (by first | exact Nat.le_refl _ | (simp; done) | (simp; omega) | omega)))))⟩
  have hR00_ := hR0
  go_enter Try.func9, Try.ntmps9
  go_wp2_with fail
  obtain ⟨bx, hbx⟩ : ∃ b, Hid (b = W.heap.size) := ⟨_, rfl⟩
  have qbx_0 : (W.alloc (.cells #[.int .i64 a0_0, .int .i64 a0_1, .slice A0 n0 c0] 24)).cell? ⟨bx, 0, none⟩ = some (.int .i64 a0_0) := by rw [hbx.out, cell_of_row _ _ _ _ _ _ (heap_alloc_new W _)]; rfl
  have qbx_1 : (W.alloc (.cells #[.int .i64 a0_0, .int .i64 a0_1, .slice A0 n0 c0] 24)).cell? ⟨bx, 1, none⟩ = some (.int .i64 a0_1) := by rw [hbx.out, cell_of_row _ _ _ _ _ _ (heap_alloc_new W _)]; rfl
  have qbx_2 : (W.alloc (.cells #[.int .i64 a0_0, .int .i64 a0_1, .slice A0 n0 c0] 24)).cell? ⟨bx, 2, none⟩ = some (.slice A0 n0 c0) := by rw [hbx.out, cell_of_row _ _ _ _ _ _ (heap_alloc_new W _)]; rfl
  have hb1 : Below W.heap.size W (W.alloc (.cells #[.int .i64 a0_0, .int .i64 a0_1, .slice A0 n0 c0] 24)) := (Below.refl _ _).alloc (Nat.le_refl _) _
  have hz1 : W.heap.size < (W.alloc (.cells #[.int .i64 a0_0, .int .i64 a0_1, .slice A0 n0 c0] 24)).heap.size := by simp
  rw [← hbx.out]
  generalize (W.alloc (.cells #[.int .i64 a0_0, .int .i64 a0_1, .slice A0 n0 c0] 24)) = w1 at qbx_0 qbx_1 qbx_2 hb1 hz1 ⊢
  have hB1 : Below W.heap.size W w1 := hb1
  have hs1 : W.heap.size ≤ w1.heap.size := hB1.size
  replace hR0 := hR0.below hb1
  refine (szLayout_any _ _ _ _ _ _ _ (by omega) (by omega) (by unfold maxLen at *; omega)).mono ?_
  rintro e w2 ⟨rfl, hb2⟩
  have hz2 := hb2.size
  have hB2 : Below W.heap.size W w2 := hB1.trans (hb2.mono hs1)
  have hs2 : W.heap.size ≤ w2.heap.size := hB2.size
  replace hR0 := hR0.below hb2
  replace qbx_0 := keepcell qbx_0 hb2
  replace qbx_1 := keepcell qbx_1 hb2
  replace qbx_2 := keepcell qbx_2 hb2
  clear hb2
  have hn0_ : n0 ≤ 1048576 := by omega
  go_wp2_with fail
  refine (toLayout_any a0_0 a0_1 A0 n0 c0 xs0 _ hR0 (by omega)).mono ?_
  rintro e w3 ⟨A_3, c_3, rfl, hk_3, hO3, hb3⟩
  have hz3 := hb3.size
  have hB3 : Below W.heap.size W w3 := hB2.trans (hb3.mono hs2)
  have hs3 : W.heap.size ≤ w3.heap.size := hB3.size
  replace hR0 := hR0.below hb3
  replace qbx_0 := keepcell qbx_0 hb3
  replace qbx_1 := keepcell qbx_1 hb3
  replace qbx_2 := keepcell qbx_2 hb3
  clear hb3
  go_wp2_with fail
  refine (countS_any _ _ _ _ _ xs0 _ (hO3.rd) (by omega)).mono ?_
  rintro e w4 ⟨rfl, hb4⟩
  have hz4 := hb4.size
  have hB4 : Below W.heap.size W w4 := hB3.trans (hb4.mono hs3)
  have hs4 : W.heap.size ≤ w4.heap.size := hB4.size
  replace hO3 := hO3.below hb4
  replace hR0 := hR0.below hb4
  replace qbx_0 := keepcell qbx_0 hb4
  replace qbx_1 := keepcell qbx_1 hb4
  replace qbx_2 := keepcell qbx_2 hb4
  clear hb4
  go_wp2_with fail
  refine (toLayout_any a0_0 a0_1 A0 n0 c0 xs0 _ hR0 (by omega)).mono ?_
  rintro e w5 ⟨A_5, c_5, rfl, hk_5, hO5, hb5⟩
  have hz5 := hb5.size
  have hB5 : Below W.heap.size W w5 := hB4.trans (hb5.mono hs4)
  have hs5 : W.heap.size ≤ w5.heap.size := hB5.size
  replace hR0 := hR0.below hb5
  replace qbx_0 := keepcell qbx_0 hb5
  replace qbx_1 := keepcell qbx_1 hb5
  replace qbx_2 := keepcell qbx_2 hb5
  clear hb5
  go_wp2_with fail
  obtain ⟨bx5, hbx5⟩ : ∃ b, Hid (b = w5.heap.size) := ⟨_, rfl⟩
  have qbx5_0 : (w5.alloc (.cells #[.int .i64 a0_0, .int .i64 a0_1, .slice A_5 n0 c_5] 30)).cell? ⟨bx5, 0, none⟩ = some (.int .i64 a0_0) := by rw [hbx5.out, cell_of_row _ _ _ _ _ _ (heap_alloc_new w5 _)]; rfl
  have qbx5_1 : (w5.alloc (.cells #[.int .i64 a0_0, .int .i64 a0_1, .slice A_5 n0 c_5] 30)).cell? ⟨bx5, 1, none⟩ = some (.int .i64 a0_1) := by rw [hbx5.out, cell_of_row _ _ _ _ _ _ (heap_alloc_new w5 _)]; rfl
  have qbx5_2 : (w5.alloc (.cells #[.int .i64 a0_0, .int .i64 a0_1, .slice A_5 n0 c_5] 30)).cell? ⟨bx5, 2, none⟩ = some (.slice A_5 n0 c_5) := by rw [hbx5.out, cell_of_row _ _ _ _ _ _ (heap_alloc_new w5 _)]; rfl
  have hb6 : Below w5.heap.size w5 (w5.alloc (.cells #[.int .i64 a0_0, .int .i64 a0_1, .slice A_5 n0 c_5] 30)) := (Below.refl _ _).alloc (Nat.le_refl _) _
  have hz6 : w5.heap.size < (w5.alloc (.cells #[.int .i64 a0_0, .int .i64 a0_1, .slice A_5 n0 c_5] 30)).heap.size := by simp
  rw [← hbx5.out]
  generalize (w5.alloc (.cells #[.int .i64 a0_0, .int .i64 a0_1, .slice A_5 n0 c_5] 30)) = w6 at qbx5_0 qbx5_1 qbx5_2 hb6 hz6 ⊢
  have hB6 : Below W.heap.size W w6 := hB5.trans (hb6.mono hs5)
  have hs6 : W.heap.size ≤ w6.heap.size := hB6.size
  replace hO5 := hO5.below hb6
  replace hR0 := hR0.below hb6
  replace qbx_0 := keepcell qbx_0 hb6
  replace qbx_1 := keepcell qbx_1 hb6
  replace qbx_2 := keepcell qbx_2 hb6
  refine (countI_any _ _ _ _ _ xs0 _ (hO5.rd) (by omega)).mono ?_
  rintro e w7 ⟨rfl, hb7⟩
  have hz7 := hb7.size
  have hB7 : Below W.heap.size W w7 := hB6.trans (hb7.mono hs6)
  have hs7 : W.heap.size ≤ w7.heap.size := hB7.size
  replace hO5 := hO5.below hb7
  replace hR0 := hR0.below hb7
  replace qbx_0 := keepcell qbx_0 hb7
  replace qbx_1 := keepcell qbx_1 hb7
  replace qbx_2 := keepcell qbx_2 hb7
  replace qbx5_0 := keepcell qbx5_0 hb7
  replace qbx5_1 := keepcell qbx5_1 hb7
  replace qbx5_2 := keepcell qbx5_2 hb7
  clear hb7
  go_wp2_with fail
  go_region_held3 (fun v => v.cell? ⟨bx, 0, none⟩ = some (.int .i64 a0_0) ∧ v.cell? ⟨bx, 1, none⟩ = some (.int .i64 a0_1) ∧ v.cell? ⟨bx, 2, none⟩ = some (.slice A0 n0 c0) ∧ v.cell? ⟨bx5, 0, none⟩ = some (.int .i64 a0_0) ∧ v.cell? ⟨bx5, 1, none⟩ = some (.int .i64 a0_1) ∧ v.cell? ⟨bx5, 2, none⟩ = some (.slice A_5 n0 c_5))
    (first | (go_split_ands; refine ⟨?_, ?_, ?_, ?_, ?_, ?_⟩ <;> first | (exact keepcell (by assumption) (by assumption)) | (go_keep)) | (go_keep))
    (first
      | (go_at_call 17; refine (toLayout_any a0_0 a0_1 A0 n0 c0 xs0 _ ?_ (by omega)).mono ?_; (first | exact hR0 | exact hR0.below ((Below.refl _ _).drew)); rintro e w8 ⟨A_8, c_8, rfl, hk_8, hO8, hb8⟩)
      | (go_at_call 20; refine (eqLayout_any _ _ _ _ n0 _ _ xs0 _ (Own.rd (Own.below hO5 (show Below w7.heap.size w7 w8 from ⟨hb8.os, hb8.tape, hb8.output, hb8.size, hb8.block⟩))) hO8.rd (by omega)).mono ?_; rintro e w9 ⟨rfl, hb9⟩))
  all_goals go_split_ands
  have hb8 : Below w7.heap.size w7 w8 := ⟨hb8.os, hb8.tape, hb8.output, hb8.size, hb8.block⟩
  have hz8 := hb8.size
  have hB8 : Below W.heap.size W w8 := hB7.trans (hb8.mono hs7)
  have hs8 : W.heap.size ≤ w8.heap.size := hB8.size
  replace hO5 := hO5.below hb8
  replace hR0 := hR0.below hb8
  replace qbx_0 := keepcell qbx_0 hb8
  replace qbx_1 := keepcell qbx_1 hb8
  replace qbx_2 := keepcell qbx_2 hb8
  replace qbx5_0 := keepcell qbx5_0 hb8
  replace qbx5_1 := keepcell qbx5_1 hb8
  replace qbx5_2 := keepcell qbx5_2 hb8
  clear hb8
  have hz9 := hb9.size
  have hB9 : Below W.heap.size W w9 := hB8.trans (hb9.mono hs8)
  have hs9 : W.heap.size ≤ w9.heap.size := hB9.size
  replace hO5 := hO5.below hb9
  replace hR0 := hR0.below hb9
  replace qbx_0 := keepcell qbx_0 hb9
  replace qbx_1 := keepcell qbx_1 hb9
  replace qbx_2 := keepcell qbx_2 hb9
  replace qbx5_0 := keepcell qbx5_0 hb9
  replace qbx5_1 := keepcell qbx5_1 hb9
  replace qbx5_2 := keepcell qbx5_2 hb9
  clear hb9
  go_wp2_with fail
  go_ret
  exact ⟨rfl, hB9⟩

end Go.Proofs.Ytmjdgplkcocgmaa
