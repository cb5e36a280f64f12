/-
  The walks of the exact laws of this seat, out of the contracts.
-/
import Derived.Test.YtmjdgplkcocgmaaJoiG
import Derived.Test.YtmjdgplkcocgmaaFlatLayout
import Derived.Test.YtmjdgplkcocgmaaFlatJoin
set_option linter.unusedVariables false
namespace Go.Proofs.Ytmjdgplkcocgmaa
open Go.RowKit

set_option maxRecDepth 100000 in
set_option maxHeartbeats 2000000 in
theorem walk_FnExactJoinsOf (a0_0 a0_1 : Int) (A0 : Option Addr) (n0 c0 : Nat) (xs0 : List Patch) (W : World) (hw0_0 : (Lit.int .i64 a0_0).wf = true) (hw0_1 : (Lit.int .i64 a0_1).wf = true) (hk0_ : n0 ≤ c0) (hm0_ : c0 ≤ maxLen) (hR0 : Rd W A0 n0 5 xs0 patchC) :
    Calls Try.prog 11 #[.agg #[.int .i64 a0_0, .int .i64 a0_1, .slice A0 n0 c0]] W fun e w' => e = .returned (.bool true) ∧ Below W.heap.size W w' := by
  clear hw0_0 hw0_1
  rcases (szLeft_cases (1048576) n0) with ⟨hl0, hs0⟩ | ⟨hl0, hs0⟩
  · go_enter Try.func11, Try.ntmps11
    go_wp2_with (first | (go_at_call 15; refine (szLayout_any _ _ _ _ _ _ _ (by omega) (by omega) (by unfold maxLen at *; omega)).mono ?_; rintro e wz ⟨rfl, hbz⟩; have hqz := hbz.size; (try simp at hqz)))
    go_ret
    exact ⟨rfl, by (repeat (first | exact Below.refl _ _ | assumption | (refine Below.drew ?_) | (refine below_drewN ?_ _) | (refine Below.alloc ?_ (by first | exact Nat.le_refl _ | (simp; done) | (simp; omega) | omega) _) | (refine Below.setCell ?_ (by first | exact Nat.le_refl _ | (simp; done) | (simp; omega) | omega) _) | (refine Below.trans ?_ (Below.mono (by assumption) (by first | exact Nat.le_refl _ | (simp; done) | (simp; omega) | omega)))))⟩
  have hol := joinsOf_small a0_0 a0_1 xs0
  have hR00_ := hR0
  go_enter Try.func11, Try.ntmps11
  go_wp2_with fail
  obtain ⟨bx, hbx⟩ : ∃ b, Hid (b = W.heap.size) := ⟨_, rfl⟩
  have qbx_0 : (W.alloc (.cells #[.int .i64 a0_0, .int .i64 a0_1, .slice A0 n0 c0] 24)).cell? ⟨bx, 0, none⟩ = some (.int .i64 a0_0) := by rw [hbx.out, cell_of_row _ _ _ _ _ _ (heap_alloc_new W _)]; rfl
  have qbx_1 : (W.alloc (.cells #[.int .i64 a0_0, .int .i64 a0_1, .slice A0 n0 c0] 24)).cell? ⟨bx, 1, none⟩ = some (.int .i64 a0_1) := by rw [hbx.out, cell_of_row _ _ _ _ _ _ (heap_alloc_new W _)]; rfl
  have qbx_2 : (W.alloc (.cells #[.int .i64 a0_0, .int .i64 a0_1, .slice A0 n0 c0] 24)).cell? ⟨bx, 2, none⟩ = some (.slice A0 n0 c0) := by rw [hbx.out, cell_of_row _ _ _ _ _ _ (heap_alloc_new W _)]; rfl
  have hb1 : Below W.heap.size W (W.alloc (.cells #[.int .i64 a0_0, .int .i64 a0_1, .slice A0 n0 c0] 24)) := (Below.refl _ _).alloc (Nat.le_refl _) _
  have hz1 : W.heap.size < (W.alloc (.cells #[.int .i64 a0_0, .int .i64 a0_1, .slice A0 n0 c0] 24)).heap.size := by simp
  rw [← hbx.out]
  generalize (W.alloc (.cells #[.int .i64 a0_0, .int .i64 a0_1, .slice A0 n0 c0] 24)) = w1 at qbx_0 qbx_1 qbx_2 hb1 hz1 ⊢
  have hB1 : Below W.heap.size W w1 := hb1
  have hs1 : W.heap.size ≤ w1.heap.size := hB1.size
  replace hR0 := hR0.below hb1
  refine (szLayout_any _ _ _ _ _ _ _ (by omega) (by omega) (by unfold maxLen at *; omega)).mono ?_
  rintro e w2 ⟨rfl, hb2⟩
  have hz2 := hb2.size
  have hB2 : Below W.heap.size W w2 := hB1.trans (hb2.mono hs1)
  have hs2 : W.heap.size ≤ w2.heap.size := hB2.size
  replace hR0 := hR0.below hb2
  replace qbx_0 := keepcell qbx_0 hb2
  replace qbx_1 := keepcell qbx_1 hb2
  replace qbx_2 := keepcell qbx_2 hb2
  clear hb2
  have hn0_ : n0 ≤ 1048576 := by omega
  go_wp2_with fail
  refine (toLayout_any a0_0 a0_1 A0 n0 c0 xs0 _ hR0 (by omega)).mono ?_
  rintro e w3 ⟨A_3, c_3, rfl, hk_3, hO3, hb3⟩
  have hz3 := hb3.size
  have hB3 : Below W.heap.size W w3 := hB2.trans (hb3.mono hs2)
  have hs3 : W.heap.size ≤ w3.heap.size := hB3.size
  replace hR0 := hR0.below hb3
  replace qbx_0 := keepcell qbx_0 hb3
  replace qbx_1 := keepcell qbx_1 hb3
  replace qbx_2 := keepcell qbx_2 hb3
  clear hb3
  go_wp2_with fail
  refine (joinsS_made _ _ _ _ _ xs0 _ (hO3.rd) (by omega)).mono ?_
  rintro e w4 ⟨A_4, c_4, rfl, hk_4, hO4, hb4⟩
  have hz4 := hb4.size
  have hB4 : Below W.heap.size W w4 := hB3.trans (hb4.mono hs3)
  have hs4 : W.heap.size ≤ w4.heap.size := hB4.size
  replace hO3 := hO3.below hb4
  replace hR0 := hR0.below hb4
  replace qbx_0 := keepcell qbx_0 hb4
  replace qbx_1 := keepcell qbx_1 hb4
  replace qbx_2 := keepcell qbx_2 hb4
  clear hb4
  go_wp2_with fail
  refine (toLayout_any a0_0 a0_1 A0 n0 c0 xs0 _ hR0 (by omega)).mono ?_
  rintro e w5 ⟨A_5, c_5, rfl, hk_5, hO5, hb5⟩
  have hz5 := hb5.size
  have hB5 : Below W.heap.size W w5 := hB4.trans (hb5.mono hs4)
  have hs5 : W.heap.size ≤ w5.heap.size := hB5.size
  replace hO4 := hO4.below hb5
  replace hR0 := hR0.below hb5
  replace qbx_0 := keepcell qbx_0 hb5
  replace qbx_1 := keepcell qbx_1 hb5
  replace qbx_2 := keepcell qbx_2 hb5
  clear hb5
  go_wp2_with fail
  obtain ⟨bx5, hbx5⟩ : ∃ b, Hid (b = w5.heap.size) := ⟨_, rfl⟩
  have qbx5_0 : (w5.alloc (.cells #[.int .i64 a0_0, .int .i64 a0_1, .slice A_5 n0 c_5] 30)).cell? ⟨bx5, 0, none⟩ = some (.int .i64 a0_0) := by rw [hbx5.out, cell_of_row _ _ _ _ _ _ (heap_alloc_new w5 _)]; rfl
  have qbx5_1 : (w5.alloc (.cells #[.int .i64 a0_0, .int .i64 a0_1, .slice A_5 n0 c_5] 30)).cell? ⟨bx5, 1, none⟩ = some (.int .i64 a0_1) := by rw [hbx5.out, cell_of_row _ _ _ _ _ _ (heap_alloc_new w5 _)]; rfl
  have qbx5_2 : (w5.alloc (.cells #[.int .i64 a0_0, .int .i64 a0_1, .slice A_5 n0 c_5] 30)).cell? ⟨bx5, 2, none⟩ = some (.slice A_5 n0 c_5) := by rw [hbx5.out, cell_of_row _ _ _ _ _ _ (heap_alloc_new w5 _)]; rfl
  have hb6 : Below w5.heap.size w5 (w5.alloc (.cells #[.int .i64 a0_0, .int .i64 a0_1, .slice A_5 n0 c_5] 30)) := (Below.refl _ _).alloc (Nat.le_refl _) _
  have hz6 : w5.heap.size < (w5.alloc (.cells #[.int .i64 a0_0, .int .i64 a0_1, .slice A_5 n0 c_5] 30)).heap.size := by simp
  rw [← hbx5.out]
  generalize (w5.alloc (.cells #[.int .i64 a0_0, .int .i64 a0_1, .slice A_5 n0 c_5] 30)) = w6 at qbx5_0 qbx5_1 qbx5_2 hb6 hz6 ⊢
  have hB6 : Below W.heap.size W w6 := hB5.trans (hb6.mono hs5)
  have hs6 : W.heap.size ≤ w6.heap.size := hB6.size
  replace hO4 := hO4.below hb6
  replace hO5 := hO5.below hb6
  replace hR0 := hR0.below hb6
  replace qbx_0 := keepcell qbx_0 hb6
  replace qbx_1 := keepcell qbx_1 hb6
  replace qbx_2 := keepcell qbx_2 hb6
  refine (joinsI_made _ _ _ _ _ xs0 _ (hO5.rd) (by omega)).mono ?_
  rintro e w7 ⟨A_7, c_7, rfl, hk_7, hO7, hb7⟩
  have hz7 := hb7.size
  have hB7 : Below W.heap.size W w7 := hB6.trans (hb7.mono hs6)
  have hs7 : W.heap.size ≤ w7.heap.size := hB7.size
  replace hO4 := hO4.below hb7
  replace hO5 := hO5.below hb7
  replace hR0 := hR0.below hb7
  replace qbx_0 := keepcell qbx_0 hb7
  replace qbx_1 := keepcell qbx_1 hb7
  replace qbx_2 := keepcell qbx_2 hb7
  replace qbx5_0 := keepcell qbx5_0 hb7
  replace qbx5_1 := keepcell qbx5_1 hb7
  replace qbx5_2 := keepcell qbx5_2 hb7
  clear hb7
  go_wp2_with fail
  refine (eqJoinS_any _ _ (joinsOf ⟨a0_0, a0_1, xs0⟩).length _ _ (joinsOf ⟨a0_0, a0_1, xs0⟩) _ hO7.rd hO4.rd (by omega)).mono ?_
  rintro e w8 ⟨rfl, hb8⟩
  have hz8 := hb8.size
  have hB8 : Below W.heap.size W w8 := hB7.trans (hb8.mono hs7)
  have hs8 : W.heap.size ≤ w8.heap.size := hB8.size
  replace hO4 := hO4.below hb8
  replace hO5 := hO5.below hb8
  replace hO7 := hO7.below hb8
  replace hR0 := hR0.below hb8
  replace qbx_0 := keepcell qbx_0 hb8
  replace qbx_1 := keepcell qbx_1 hb8
  replace qbx_2 := keepcell qbx_2 hb8
  replace qbx5_0 := keepcell qbx5_0 hb8
  replace qbx5_1 := keepcell qbx5_1 hb8
  replace qbx5_2 := keepcell qbx5_2 hb8
  clear hb8
  go_wp2_with fail
  go_region_held3 (fun v => v.cell? ⟨bx, 0, none⟩ = some (.int .i64 a0_0) ∧ v.cell? ⟨bx, 1, none⟩ = some (.int .i64 a0_1) ∧ v.cell? ⟨bx, 2, none⟩ = some (.slice A0 n0 c0) ∧ v.cell? ⟨bx5, 0, none⟩ = some (.int .i64 a0_0) ∧ v.cell? ⟨bx5, 1, none⟩ = some (.int .i64 a0_1) ∧ v.cell? ⟨bx5, 2, none⟩ = some (.slice A_5 n0 c_5))
    (first | (go_split_ands; refine ⟨?_, ?_, ?_, ?_, ?_, ?_⟩ <;> first | (exact keepcell (by assumption) (by assumption)) | (go_keep)) | (go_keep))
    (first
      | (go_at_call 17; refine (toLayout_any a0_0 a0_1 A0 n0 c0 xs0 _ ?_ (by omega)).mono ?_; (first | exact hR0 | exact hR0.below ((Below.refl _ _).drew)); rintro e w9 ⟨A_9, c_9, rfl, hk_9, hO9, hb9⟩)
      | (go_at_call 20; refine (eqLayout_any _ _ _ _ n0 _ _ xs0 _ (Own.rd (Own.below hO5 (show Below w8.heap.size w8 w9 from ⟨hb9.os, hb9.tape, hb9.output, hb9.size, hb9.block⟩))) hO9.rd (by omega)).mono ?_; rintro e w10 ⟨rfl, hb10⟩))
  all_goals go_split_ands
  have hb9 : Below w8.heap.size w8 w9 := ⟨hb9.os, hb9.tape, hb9.output, hb9.size, hb9.block⟩
  have hz9 := hb9.size
  have hB9 : Below W.heap.size W w9 := hB8.trans (hb9.mono hs8)
  have hs9 : W.heap.size ≤ w9.heap.size := hB9.size
  replace hO4 := hO4.below hb9
  replace hO5 := hO5.below hb9
  replace hO7 := hO7.below hb9
  replace hR0 := hR0.below hb9
  replace qbx_0 := keepcell qbx_0 hb9
  replace qbx_1 := keepcell qbx_1 hb9
  replace qbx_2 := keepcell qbx_2 hb9
  replace qbx5_0 := keepcell qbx5_0 hb9
  replace qbx5_1 := keepcell qbx5_1 hb9
  replace qbx5_2 := keepcell qbx5_2 hb9
  clear hb9
  have hz10 := hb10.size
  have hB10 : Below W.heap.size W w10 := hB9.trans (hb10.mono hs9)
  have hs10 : W.heap.size ≤ w10.heap.size := hB10.size
  replace hO4 := hO4.below hb10
  replace hO5 := hO5.below hb10
  replace hO7 := hO7.below hb10
  replace hR0 := hR0.below hb10
  replace qbx_0 := keepcell qbx_0 hb10
  replace qbx_1 := keepcell qbx_1 hb10
  replace qbx_2 := keepcell qbx_2 hb10
  replace qbx5_0 := keepcell qbx5_0 hb10
  replace qbx5_1 := keepcell qbx5_1 hb10
  replace qbx5_2 := keepcell qbx5_2 hb10
  clear hb10
  go_wp2_with fail
  refine (markLayout_any _ _ _ _ _ _ _ (1) _ _ hO5 (by omega) (by omega) (by omega)).mono ?_
  rintro e w11 ⟨rfl, hM, hg11⟩
  clear hO5
  have hO5 := hM
  clear hM
  have hz11 := hg11.size
  have hB11 : Below W.heap.size W w11 := below_only hB10 hg11 hs10 (by have := hbx.out; have := hbx5.out; omega)
  have hs11 : W.heap.size ≤ w11.heap.size := hB11.size
  replace hO4 := hO4.only hg11 (by have := hbx.out; have := hbx5.out; omega)
  replace hO7 := hO7.only hg11 (by have := hbx.out; have := hbx5.out; omega)
  replace qbx_0 := only_cell qbx_0 hg11 (by have := hbx.out; have := hbx5.out; omega)
  replace qbx_1 := only_cell qbx_1 hg11 (by have := hbx.out; have := hbx5.out; omega)
  replace qbx_2 := only_cell qbx_2 hg11 (by have := hbx.out; have := hbx5.out; omega)
  replace qbx5_0 := only_cell qbx5_0 hg11 (by have := hbx.out; have := hbx5.out; omega)
  replace qbx5_1 := only_cell qbx5_1 hg11 (by have := hbx.out; have := hbx5.out; omega)
  replace qbx5_2 := only_cell qbx5_2 hg11 (by have := hbx.out; have := hbx5.out; omega)
  replace hR0 := hR00_.below hB11
  go_wp2_with fail
  refine (eqJoinS_any _ _ (joinsOf ⟨a0_0, a0_1, xs0⟩).length _ _ (joinsOf ⟨a0_0, a0_1, xs0⟩) _ hO7.rd hO4.rd (by omega)).mono ?_
  rintro e w12 ⟨rfl, hb12⟩
  have hz12 := hb12.size
  have hB12 : Below W.heap.size W w12 := hB11.trans (hb12.mono hs11)
  have hs12 : W.heap.size ≤ w12.heap.size := hB12.size
  replace hO4 := hO4.below hb12
  replace hO7 := hO7.below hb12
  replace hR0 := hR0.below hb12
  replace qbx_0 := keepcell qbx_0 hb12
  replace qbx_1 := keepcell qbx_1 hb12
  replace qbx_2 := keepcell qbx_2 hb12
  replace qbx5_0 := keepcell qbx5_0 hb12
  replace qbx5_1 := keepcell qbx5_1 hb12
  replace qbx5_2 := keepcell qbx5_2 hb12
  clear hb12
  go_wp2_with fail
  refine (markJoinS_any _ _ _ _ _ (1) _ _ hO7 (by omega) (by omega) (by omega)).mono ?_
  rintro e w13 ⟨rfl, hM, hg13⟩
  clear hO7
  have hO7 := hM
  clear hM
  have hz13 := hg13.size
  have hB13 : Below W.heap.size W w13 := below_only hB12 hg13 hs12 (by have := hbx.out; have := hbx5.out; omega)
  have hs13 : W.heap.size ≤ w13.heap.size := hB13.size
  replace hO4 := hO4.only hg13 (by have := hbx.out; have := hbx5.out; omega)
  replace qbx_0 := only_cell qbx_0 hg13 (by have := hbx.out; have := hbx5.out; omega)
  replace qbx_1 := only_cell qbx_1 hg13 (by have := hbx.out; have := hbx5.out; omega)
  replace qbx_2 := only_cell qbx_2 hg13 (by have := hbx.out; have := hbx5.out; omega)
  replace qbx5_0 := only_cell qbx5_0 hg13 (by have := hbx.out; have := hbx5.out; omega)
  replace qbx5_1 := only_cell qbx5_1 hg13 (by have := hbx.out; have := hbx5.out; omega)
  replace qbx5_2 := only_cell qbx5_2 hg13 (by have := hbx.out; have := hbx5.out; omega)
  replace hR0 := hR00_.below hB13
  go_wp2_with fail
  refine (heldJoinS_any _ _ _ (1) _ hO7.rd (by omega) (by omega) (by omega)).mono ?_
  rintro e w' ⟨rfl, rfl⟩
  go_wp2_with fail
  refine (toLayout_any a0_0 a0_1 A0 n0 c0 xs0 _ hR0 (by omega)).mono ?_
  rintro e w14 ⟨A_14, c_14, rfl, hk_14, hO14, hb14⟩
  have hz14 := hb14.size
  have hB14 : Below W.heap.size W w14 := hB13.trans (hb14.mono hs13)
  have hs14 : W.heap.size ≤ w14.heap.size := hB14.size
  replace hO4 := hO4.below hb14
  replace hO7 := hO7.below hb14
  replace hR0 := hR0.below hb14
  replace qbx_0 := keepcell qbx_0 hb14
  replace qbx_1 := keepcell qbx_1 hb14
  replace qbx_2 := keepcell qbx_2 hb14
  replace qbx5_0 := keepcell qbx5_0 hb14
  replace qbx5_1 := keepcell qbx5_1 hb14
  replace qbx5_2 := keepcell qbx5_2 hb14
  clear hb14
  go_wp2_with fail
  refine (joinsI_made _ _ _ _ _ xs0 _ (hO14.rd) (by omega)).mono ?_
  rintro e w15 ⟨A_15, c_15, rfl, hk_15, hO15, hb15⟩
  have hz15 := hb15.size
  have hB15 : Below W.heap.size W w15 := hB14.trans (hb15.mono hs14)
  have hs15 : W.heap.size ≤ w15.heap.size := hB15.size
  replace hO4 := hO4.below hb15
  replace hO7 := hO7.below hb15
  replace hO14 := hO14.below hb15
  replace hR0 := hR0.below hb15
  replace qbx_0 := keepcell qbx_0 hb15
  replace qbx_1 := keepcell qbx_1 hb15
  replace qbx_2 := keepcell qbx_2 hb15
  replace qbx5_0 := keepcell qbx5_0 hb15
  replace qbx5_1 := keepcell qbx5_1 hb15
  replace qbx5_2 := keepcell qbx5_2 hb15
  clear hb15
  go_wp2_with fail
  refine (eqJoinS_any _ _ (joinsOf ⟨a0_0, a0_1, xs0⟩).length _ _ (joinsOf ⟨a0_0, a0_1, xs0⟩) _ hO15.rd hO4.rd (by omega)).mono ?_
  rintro e w16 ⟨rfl, hb16⟩
  have hz16 := hb16.size
  have hB16 : Below W.heap.size W w16 := hB15.trans (hb16.mono hs15)
  have hs16 : W.heap.size ≤ w16.heap.size := hB16.size
  replace hO4 := hO4.below hb16
  replace hO7 := hO7.below hb16
  replace hO15 := hO15.below hb16
  replace hR0 := hR0.below hb16
  replace qbx_0 := keepcell qbx_0 hb16
  replace qbx_1 := keepcell qbx_1 hb16
  replace qbx_2 := keepcell qbx_2 hb16
  replace qbx5_0 := keepcell qbx5_0 hb16
  replace qbx5_1 := keepcell qbx5_1 hb16
  replace qbx5_2 := keepcell qbx5_2 hb16
  clear hb16
  go_wp2_with fail
  refine (heldJoinS_any _ _ _ (1) _ hO7.rd (by omega) (by omega) (by omega)).mono ?_
  rintro e w' ⟨rfl, rfl⟩
  go_wp2_with fail
  go_ret
  exact ⟨rfl, hB16⟩

end Go.Proofs.Ytmjdgplkcocgmaa
