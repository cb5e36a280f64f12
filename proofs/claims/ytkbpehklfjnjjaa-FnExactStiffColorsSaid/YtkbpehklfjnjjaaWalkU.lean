/-
  The walks of the exact laws of this seat, out of the contracts.
-/
import Derived.Test.YtkbpehklfjnjjaaSeeB
import Derived.Test.YtkbpehklfjnjjaaFlatBlock
set_option linter.unusedVariables false
namespace Go.Proofs.Ytkbpehklfjnjjaa
open Go.RowKit

set_option maxRecDepth 100000 in
set_option maxHeartbeats 2000000 in
theorem walk_FnExactStiffColors (a0_0 : Int) (A0 : Option Addr) (n0 c0 : Nat) (xs0 : List Cell) (A1 : Option Addr) (n1 c1 : Nat) (xs1 : List Int) (W : World) (hw0_0 : (Lit.int .i64 a0_0).wf = true) (hk0_ : n0 ≤ c0) (hm0_ : c0 ≤ maxLen) (hR0 : Rd W A0 n0 3 xs0 cellC) (hk1_ : n1 ≤ c1) (hm1_ : c1 ≤ maxLen) (hR1 : Rd W A1 n1 1 xs1 intC) :
    Calls Try.prog 4 #[.agg #[.int .i64 a0_0, .slice A0 n0 c0], .slice A1 n1 c1] W fun e w' => e = .returned (.bool true) ∧ Below W.heap.size W w' := by
  clear hw0_0
  rcases Nat.lt_or_ge 1048576 n1 with hn1 | hn1
  · go_enter Try.func4, Try.ntmps4
    go_wp2_with fail
    go_ret
    exact ⟨rfl, by (repeat (first | exact Below.refl _ _ | assumption | (refine Below.drew ?_) | (refine below_drewN ?_ _) | (refine Below.alloc ?_ (by first | exact Nat.le_refl _ | (simp; done) | (simp; omega) | omega) _) | (refine Below.setCell ?_ (by first | exact Nat.le_refl _ | (simp; done) | (simp; omega) | omega) _) | (refine Below.trans ?_ (Below.mono (by assumption) (by first | exact Nat.le_refl _ | (simp; done) | (simp; omega) | omega)))))⟩
  rcases (szLeft_cases (1048576) n0) with ⟨hl0, hs0⟩ | ⟨hl0, hs0⟩
  · go_enter Try.func4, Try.ntmps4
    go_wp2_with (first | (go_at_call 9; refine (szBlock_any _ _ _ _ _ _ (by omega) (by omega) (by unfold maxLen at *; omega)).mono ?_; rintro e wz ⟨rfl, hbz⟩))
    go_ret
    exact ⟨rfl, by (repeat (first | exact Below.refl _ _ | assumption | (refine Below.drew ?_) | (refine below_drewN ?_ _) | (refine Below.alloc ?_ (by first | exact Nat.le_refl _ | (simp; done) | (simp; omega) | omega) _) | (refine Below.setCell ?_ (by first | exact Nat.le_refl _ | (simp; done) | (simp; omega) | omega) _) | (refine Below.trans ?_ (Below.mono (by assumption) (by first | exact Nat.le_refl _ | (simp; done) | (simp; omega) | omega)))))⟩
  have hol := stiff_len a0_0 xs0 xs1
  have hR10_ := hR1
  have hR00_ := hR0
  go_enter Try.func4, Try.ntmps4
  go_wp2_with fail
  obtain ⟨bx, hbx⟩ : ∃ b, Hid (b = W.heap.size) := ⟨_, rfl⟩
  have qbx_0 : (W.alloc (.cells #[.int .i64 a0_0, .slice A0 n0 c0] 24)).cell? ⟨bx, 0, none⟩ = some (.int .i64 a0_0) := by rw [hbx.out, cell_of_row _ _ _ _ _ _ (heap_alloc_new W _)]; rfl
  have qbx_1 : (W.alloc (.cells #[.int .i64 a0_0, .slice A0 n0 c0] 24)).cell? ⟨bx, 1, none⟩ = some (.slice A0 n0 c0) := by rw [hbx.out, cell_of_row _ _ _ _ _ _ (heap_alloc_new W _)]; rfl
  have hb1 : Below W.heap.size W (W.alloc (.cells #[.int .i64 a0_0, .slice A0 n0 c0] 24)) := (Below.refl _ _).alloc (Nat.le_refl _) _
  have hz1 : W.heap.size < (W.alloc (.cells #[.int .i64 a0_0, .slice A0 n0 c0] 24)).heap.size := by simp
  rw [← hbx.out]
  generalize (W.alloc (.cells #[.int .i64 a0_0, .slice A0 n0 c0] 24)) = w1 at qbx_0 qbx_1 hb1 hz1 ⊢
  have hB1 : Below W.heap.size W w1 := hb1
  have hs1 : W.heap.size ≤ w1.heap.size := hB1.size
  replace hR0 := hR0.below hb1
  replace hR1 := hR1.below hb1
  refine (szBlock_any _ _ _ _ _ _ (by omega) (by omega) (by unfold maxLen at *; omega)).mono ?_
  rintro e w2 ⟨rfl, hb2⟩
  have hz2 := hb2.size
  have hB2 : Below W.heap.size W w2 := hB1.trans (hb2.mono hs1)
  have hs2 : W.heap.size ≤ w2.heap.size := hB2.size
  replace hR0 := hR0.below hb2
  replace hR1 := hR1.below hb2
  replace qbx_0 := keepcell qbx_0 hb2
  replace qbx_1 := keepcell qbx_1 hb2
  clear hb2
  have hn0_ : n0 ≤ 1048576 := by omega
  have hn1_ : n1 ≤ 1048576 := by omega
  go_wp2_with fail
  refine (toBlock_any a0_0 A0 n0 c0 xs0 _ hR0 (by omega)).mono ?_
  rintro e w3 ⟨A_3, c_3, rfl, hk_3, hO3, hb3⟩
  have hz3 := hb3.size
  have hB3 : Below W.heap.size W w3 := hB2.trans (hb3.mono hs2)
  have hs3 : W.heap.size ≤ w3.heap.size := hB3.size
  replace hR0 := hR0.below hb3
  replace hR1 := hR1.below hb3
  replace qbx_0 := keepcell qbx_0 hb3
  replace qbx_1 := keepcell qbx_1 hb3
  clear hb3
  go_wp2_with fail
  refine (toIntS_any A1 n1 c1 xs1 _ hR1 (by omega)).mono ?_
  rintro e w4 ⟨A_4, c_4, rfl, hk_4, hO4, hb4⟩
  have hz4 := hb4.size
  have hB4 : Below W.heap.size W w4 := hB3.trans (hb4.mono hs3)
  have hs4 : W.heap.size ≤ w4.heap.size := hB4.size
  replace hO3 := hO3.below hb4
  replace hR0 := hR0.below hb4
  replace hR1 := hR1.below hb4
  replace qbx_0 := keepcell qbx_0 hb4
  replace qbx_1 := keepcell qbx_1 hb4
  clear hb4
  go_wp2_with fail
  refine (stiffS_any _ _ _ _ xs0 _ _ _ xs1 _ (hO3.rd) (by omega) (hO4.rd) (by omega)).mono ?_
  rintro e w5 ⟨A_5, c_5, rfl, hk_5, hO5, hb5⟩
  have hz5 := hb5.size
  have hB5 : Below W.heap.size W w5 := hB4.trans (hb5.mono hs4)
  have hs5 : W.heap.size ≤ w5.heap.size := hB5.size
  replace hO3 := hO3.below hb5
  replace hO4 := hO4.below hb5
  replace hR0 := hR0.below hb5
  replace hR1 := hR1.below hb5
  replace qbx_0 := keepcell qbx_0 hb5
  replace qbx_1 := keepcell qbx_1 hb5
  clear hb5
  go_wp2_with fail
  refine (toBlock_any a0_0 A0 n0 c0 xs0 _ hR0 (by omega)).mono ?_
  rintro e w6 ⟨A_6, c_6, rfl, hk_6, hO6, hb6⟩
  have hz6 := hb6.size
  have hB6 : Below W.heap.size W w6 := hB5.trans (hb6.mono hs5)
  have hs6 : W.heap.size ≤ w6.heap.size := hB6.size
  replace hO5 := hO5.below hb6
  replace hR0 := hR0.below hb6
  replace hR1 := hR1.below hb6
  replace qbx_0 := keepcell qbx_0 hb6
  replace qbx_1 := keepcell qbx_1 hb6
  clear hb6
  go_wp2_with fail
  obtain ⟨bx6, hbx6⟩ : ∃ b, Hid (b = w6.heap.size) := ⟨_, rfl⟩
  have qbx6_0 : (w6.alloc (.cells #[.int .i64 a0_0, .slice A_6 n0 c_6] 30)).cell? ⟨bx6, 0, none⟩ = some (.int .i64 a0_0) := by rw [hbx6.out, cell_of_row _ _ _ _ _ _ (heap_alloc_new w6 _)]; rfl
  have qbx6_1 : (w6.alloc (.cells #[.int .i64 a0_0, .slice A_6 n0 c_6] 30)).cell? ⟨bx6, 1, none⟩ = some (.slice A_6 n0 c_6) := by rw [hbx6.out, cell_of_row _ _ _ _ _ _ (heap_alloc_new w6 _)]; rfl
  have hb7 : Below w6.heap.size w6 (w6.alloc (.cells #[.int .i64 a0_0, .slice A_6 n0 c_6] 30)) := (Below.refl _ _).alloc (Nat.le_refl _) _
  have hz7 : w6.heap.size < (w6.alloc (.cells #[.int .i64 a0_0, .slice A_6 n0 c_6] 30)).heap.size := by simp
  rw [← hbx6.out]
  generalize (w6.alloc (.cells #[.int .i64 a0_0, .slice A_6 n0 c_6] 30)) = w7 at qbx6_0 qbx6_1 hb7 hz7 ⊢
  have hB7 : Below W.heap.size W w7 := hB6.trans (hb7.mono hs6)
  have hs7 : W.heap.size ≤ w7.heap.size := hB7.size
  replace hO5 := hO5.below hb7
  replace hO6 := hO6.below hb7
  replace hR0 := hR0.below hb7
  replace hR1 := hR1.below hb7
  replace qbx_0 := keepcell qbx_0 hb7
  replace qbx_1 := keepcell qbx_1 hb7
  refine (toIntS_any A1 n1 c1 xs1 _ hR1 (by omega)).mono ?_
  rintro e w8 ⟨A_8, c_8, rfl, hk_8, hO8, hb8⟩
  have hz8 := hb8.size
  have hB8 : Below W.heap.size W w8 := hB7.trans (hb8.mono hs7)
  have hs8 : W.heap.size ≤ w8.heap.size := hB8.size
  replace hO5 := hO5.below hb8
  replace hO6 := hO6.below hb8
  replace hR0 := hR0.below hb8
  replace hR1 := hR1.below hb8
  replace qbx_0 := keepcell qbx_0 hb8
  replace qbx_1 := keepcell qbx_1 hb8
  replace qbx6_0 := keepcell qbx6_0 hb8
  replace qbx6_1 := keepcell qbx6_1 hb8
  clear hb8
  go_wp2_with fail
  refine (stiffI_any _ _ _ _ xs0 _ _ _ xs1 _ (hO6.rd) (by omega) (hO8.rd) (by omega)).mono ?_
  rintro e w9 ⟨A_9, c_9, rfl, hk_9, hO9, hb9⟩
  have hz9 := hb9.size
  have hB9 : Below W.heap.size W w9 := hB8.trans (hb9.mono hs8)
  have hs9 : W.heap.size ≤ w9.heap.size := hB9.size
  replace hO5 := hO5.below hb9
  replace hO6 := hO6.below hb9
  replace hO8 := hO8.below hb9
  replace hR0 := hR0.below hb9
  replace hR1 := hR1.below hb9
  replace qbx_0 := keepcell qbx_0 hb9
  replace qbx_1 := keepcell qbx_1 hb9
  replace qbx6_0 := keepcell qbx6_0 hb9
  replace qbx6_1 := keepcell qbx6_1 hb9
  clear hb9
  go_wp2_with fail
  refine (eqIntS_any _ _ (stiffOf a0_0 xs0 xs1).length _ _ (stiffOf a0_0 xs0 xs1) _ hO9.rd hO5.rd (by omega)).mono ?_
  rintro e w10 ⟨rfl, hb10⟩
  have hz10 := hb10.size
  have hB10 : Below W.heap.size W w10 := hB9.trans (hb10.mono hs9)
  have hs10 : W.heap.size ≤ w10.heap.size := hB10.size
  replace hO5 := hO5.below hb10
  replace hO6 := hO6.below hb10
  replace hO8 := hO8.below hb10
  replace hO9 := hO9.below hb10
  replace hR0 := hR0.below hb10
  replace hR1 := hR1.below hb10
  replace qbx_0 := keepcell qbx_0 hb10
  replace qbx_1 := keepcell qbx_1 hb10
  replace qbx6_0 := keepcell qbx6_0 hb10
  replace qbx6_1 := keepcell qbx6_1 hb10
  clear hb10
  go_wp2_with fail
  go_region_held3 (fun v => v.cell? ⟨bx, 0, none⟩ = some (.int .i64 a0_0) ∧ v.cell? ⟨bx, 1, none⟩ = some (.slice A0 n0 c0) ∧ v.cell? ⟨bx6, 0, none⟩ = some (.int .i64 a0_0) ∧ v.cell? ⟨bx6, 1, none⟩ = some (.slice A_6 n0 c_6))
    (first | (go_split_ands; refine ⟨?_, ?_, ?_, ?_⟩ <;> first | (exact keepcell (by assumption) (by assumption)) | (go_keep)) | (go_keep))
    (first
      | (go_at_call 11; refine (toBlock_any a0_0 A0 n0 c0 xs0 _ ?_ (by omega)).mono ?_; (first | exact hR0 | exact hR0.below ((Below.refl _ _).drew)); rintro e w11 ⟨A_11, c_11, rfl, hk_11, hO11, hb11⟩)
      | (go_at_call 14; refine (eqBlock_any _ _ _ n0 _ _ xs0 _ (Own.rd (Own.below hO6 (show Below w10.heap.size w10 w11 from ⟨hb11.os, hb11.tape, hb11.output, hb11.size, hb11.block⟩))) hO11.rd (by omega)).mono ?_; rintro e w12 ⟨rfl, hb12⟩))
  all_goals go_split_ands
  have hb11 : Below w10.heap.size w10 w11 := ⟨hb11.os, hb11.tape, hb11.output, hb11.size, hb11.block⟩
  have hz11 := hb11.size
  have hB11 : Below W.heap.size W w11 := hB10.trans (hb11.mono hs10)
  have hs11 : W.heap.size ≤ w11.heap.size := hB11.size
  replace hO5 := hO5.below hb11
  replace hO6 := hO6.below hb11
  replace hO8 := hO8.below hb11
  replace hO9 := hO9.below hb11
  replace hR0 := hR0.below hb11
  replace hR1 := hR1.below hb11
  replace qbx_0 := keepcell qbx_0 hb11
  replace qbx_1 := keepcell qbx_1 hb11
  replace qbx6_0 := keepcell qbx6_0 hb11
  replace qbx6_1 := keepcell qbx6_1 hb11
  clear hb11
  have hz12 := hb12.size
  have hB12 : Below W.heap.size W w12 := hB11.trans (hb12.mono hs11)
  have hs12 : W.heap.size ≤ w12.heap.size := hB12.size
  replace hO5 := hO5.below hb12
  replace hO6 := hO6.below hb12
  replace hO8 := hO8.below hb12
  replace hO9 := hO9.below hb12
  replace hR0 := hR0.below hb12
  replace hR1 := hR1.below hb12
  replace qbx_0 := keepcell qbx_0 hb12
  replace qbx_1 := keepcell qbx_1 hb12
  replace qbx6_0 := keepcell qbx6_0 hb12
  replace qbx6_1 := keepcell qbx6_1 hb12
  clear hb12
  go_wp2_with fail
  refine (toIntS_any A1 n1 c1 xs1 _ hR1 (by omega)).mono ?_
  rintro e w13 ⟨A_13, c_13, rfl, hk_13, hO13, hb13⟩
  have hz13 := hb13.size
  have hB13 : Below W.heap.size W w13 := hB12.trans (hb13.mono hs12)
  have hs13 : W.heap.size ≤ w13.heap.size := hB13.size
  replace hO5 := hO5.below hb13
  replace hO6 := hO6.below hb13
  replace hO8 := hO8.below hb13
  replace hO9 := hO9.below hb13
  replace hR0 := hR0.below hb13
  replace hR1 := hR1.below hb13
  replace qbx_0 := keepcell qbx_0 hb13
  replace qbx_1 := keepcell qbx_1 hb13
  replace qbx6_0 := keepcell qbx6_0 hb13
  replace qbx6_1 := keepcell qbx6_1 hb13
  clear hb13
  go_wp2_with fail
  refine (eqIntS_any _ _ n1 _ _ xs1 _ hO8.rd hO13.rd (by omega)).mono ?_
  rintro e w14 ⟨rfl, hb14⟩
  have hz14 := hb14.size
  have hB14 : Below W.heap.size W w14 := hB13.trans (hb14.mono hs13)
  have hs14 : W.heap.size ≤ w14.heap.size := hB14.size
  replace hO5 := hO5.below hb14
  replace hO6 := hO6.below hb14
  replace hO8 := hO8.below hb14
  replace hO9 := hO9.below hb14
  replace hO13 := hO13.below hb14
  replace hR0 := hR0.below hb14
  replace hR1 := hR1.below hb14
  replace qbx_0 := keepcell qbx_0 hb14
  replace qbx_1 := keepcell qbx_1 hb14
  replace qbx6_0 := keepcell qbx6_0 hb14
  replace qbx6_1 := keepcell qbx6_1 hb14
  clear hb14
  go_wp2_with fail
  refine (markBlock_any _ _ _ _ _ _ (1) _ _ hO6 (by omega) (by omega) (by omega)).mono ?_
  rintro e w15 ⟨rfl, hM, hg15⟩
  clear hO6
  have hO6 := hM
  clear hM
  have hz15 := hg15.size
  have hB15 : Below W.heap.size W w15 := below_only hB14 hg15 hs14 (by have := hbx.out; have := hbx6.out; omega)
  have hs15 : W.heap.size ≤ w15.heap.size := hB15.size
  replace hO5 := hO5.only hg15 (by have := hbx.out; have := hbx6.out; omega)
  replace hO8 := hO8.only hg15 (by have := hbx.out; have := hbx6.out; omega)
  replace hO9 := hO9.only hg15 (by have := hbx.out; have := hbx6.out; omega)
  replace qbx_0 := only_cell qbx_0 hg15 (by have := hbx.out; have := hbx6.out; omega)
  replace qbx_1 := only_cell qbx_1 hg15 (by have := hbx.out; have := hbx6.out; omega)
  replace qbx6_0 := only_cell qbx6_0 hg15 (by have := hbx.out; have := hbx6.out; omega)
  replace qbx6_1 := only_cell qbx6_1 hg15 (by have := hbx.out; have := hbx6.out; omega)
  replace hR0 := hR00_.below hB15
  replace hR1 := hR10_.below hB15
  go_wp2_with fail
  refine (markIntS_any _ _ _ _ _ (1 + 3 * (n0 : Int)) _ _ hO8 (by omega) (by omega) (by omega)).mono ?_
  rintro e w16 ⟨rfl, hM, hg16⟩
  clear hO8
  have hO8 := hM
  clear hM
  have hz16 := hg16.size
  have hB16 : Below W.heap.size W w16 := below_only hB15 hg16 hs15 (by have := hbx.out; have := hbx6.out; omega)
  have hs16 : W.heap.size ≤ w16.heap.size := hB16.size
  replace hO5 := hO5.only hg16 (by have := hbx.out; have := hbx6.out; omega)
  replace hO9 := hO9.only hg16 (by have := hbx.out; have := hbx6.out; omega)
  replace qbx_0 := only_cell qbx_0 hg16 (by have := hbx.out; have := hbx6.out; omega)
  replace qbx_1 := only_cell qbx_1 hg16 (by have := hbx.out; have := hbx6.out; omega)
  replace qbx6_0 := only_cell qbx6_0 hg16 (by have := hbx.out; have := hbx6.out; omega)
  replace qbx6_1 := only_cell qbx6_1 hg16 (by have := hbx.out; have := hbx6.out; omega)
  replace hR0 := hR00_.below hB16
  replace hR1 := hR10_.below hB16
  go_wp2_with fail
  refine (eqIntS_any _ _ (stiffOf a0_0 xs0 xs1).length _ _ (stiffOf a0_0 xs0 xs1) _ hO9.rd hO5.rd (by omega)).mono ?_
  rintro e w17 ⟨rfl, hb17⟩
  have hz17 := hb17.size
  have hB17 : Below W.heap.size W w17 := hB16.trans (hb17.mono hs16)
  have hs17 : W.heap.size ≤ w17.heap.size := hB17.size
  replace hO5 := hO5.below hb17
  replace hO9 := hO9.below hb17
  replace hR0 := hR0.below hb17
  replace hR1 := hR1.below hb17
  replace qbx_0 := keepcell qbx_0 hb17
  replace qbx_1 := keepcell qbx_1 hb17
  replace qbx6_0 := keepcell qbx6_0 hb17
  replace qbx6_1 := keepcell qbx6_1 hb17
  clear hb17
  go_wp2_with fail
  refine (markIntS_any _ _ _ _ _ (1) _ _ hO9 (by omega) (by omega) (by omega)).mono ?_
  rintro e w18 ⟨rfl, hM, hg18⟩
  clear hO9
  have hO9 := hM
  clear hM
  have hz18 := hg18.size
  have hB18 : Below W.heap.size W w18 := below_only hB17 hg18 hs17 (by have := hbx.out; have := hbx6.out; omega)
  have hs18 : W.heap.size ≤ w18.heap.size := hB18.size
  replace hO5 := hO5.only hg18 (by have := hbx.out; have := hbx6.out; omega)
  replace qbx_0 := only_cell qbx_0 hg18 (by have := hbx.out; have := hbx6.out; omega)
  replace qbx_1 := only_cell qbx_1 hg18 (by have := hbx.out; have := hbx6.out; omega)
  replace qbx6_0 := only_cell qbx6_0 hg18 (by have := hbx.out; have := hbx6.out; omega)
  replace qbx6_1 := only_cell qbx6_1 hg18 (by have := hbx.out; have := hbx6.out; omega)
  replace hR0 := hR00_.below hB18
  replace hR1 := hR10_.below hB18
  go_wp2_with fail
  refine (heldIntS_any _ _ _ (1) _ hO9.rd (by omega) (by omega) (by omega)).mono ?_
  rintro e w' ⟨rfl, rfl⟩
  go_wp2_with fail
  refine (toBlock_any a0_0 A0 n0 c0 xs0 _ hR0 (by omega)).mono ?_
  rintro e w19 ⟨A_19, c_19, rfl, hk_19, hO19, hb19⟩
  have hz19 := hb19.size
  have hB19 : Below W.heap.size W w19 := hB18.trans (hb19.mono hs18)
  have hs19 : W.heap.size ≤ w19.heap.size := hB19.size
  replace hO5 := hO5.below hb19
  replace hO9 := hO9.below hb19
  replace hR0 := hR0.below hb19
  replace hR1 := hR1.below hb19
  replace qbx_0 := keepcell qbx_0 hb19
  replace qbx_1 := keepcell qbx_1 hb19
  replace qbx6_0 := keepcell qbx6_0 hb19
  replace qbx6_1 := keepcell qbx6_1 hb19
  clear hb19
  go_wp2_with fail
  refine (toIntS_any A1 n1 c1 xs1 _ hR1 (by omega)).mono ?_
  rintro e w20 ⟨A_20, c_20, rfl, hk_20, hO20, hb20⟩
  have hz20 := hb20.size
  have hB20 : Below W.heap.size W w20 := hB19.trans (hb20.mono hs19)
  have hs20 : W.heap.size ≤ w20.heap.size := hB20.size
  replace hO5 := hO5.below hb20
  replace hO9 := hO9.below hb20
  replace hO19 := hO19.below hb20
  replace hR0 := hR0.below hb20
  replace hR1 := hR1.below hb20
  replace qbx_0 := keepcell qbx_0 hb20
  replace qbx_1 := keepcell qbx_1 hb20
  replace qbx6_0 := keepcell qbx6_0 hb20
  replace qbx6_1 := keepcell qbx6_1 hb20
  clear hb20
  go_wp2_with fail
  refine (stiffI_any _ _ _ _ xs0 _ _ _ xs1 _ (hO19.rd) (by omega) (hO20.rd) (by omega)).mono ?_
  rintro e w21 ⟨A_21, c_21, rfl, hk_21, hO21, hb21⟩
  have hz21 := hb21.size
  have hB21 : Below W.heap.size W w21 := hB20.trans (hb21.mono hs20)
  have hs21 : W.heap.size ≤ w21.heap.size := hB21.size
  replace hO5 := hO5.below hb21
  replace hO9 := hO9.below hb21
  replace hO19 := hO19.below hb21
  replace hO20 := hO20.below hb21
  replace hR0 := hR0.below hb21
  replace hR1 := hR1.below hb21
  replace qbx_0 := keepcell qbx_0 hb21
  replace qbx_1 := keepcell qbx_1 hb21
  replace qbx6_0 := keepcell qbx6_0 hb21
  replace qbx6_1 := keepcell qbx6_1 hb21
  clear hb21
  go_wp2_with fail
  refine (eqIntS_any _ _ (stiffOf a0_0 xs0 xs1).length _ _ (stiffOf a0_0 xs0 xs1) _ hO21.rd hO5.rd (by omega)).mono ?_
  rintro e w22 ⟨rfl, hb22⟩
  have hz22 := hb22.size
  have hB22 : Below W.heap.size W w22 := hB21.trans (hb22.mono hs21)
  have hs22 : W.heap.size ≤ w22.heap.size := hB22.size
  replace hO5 := hO5.below hb22
  replace hO9 := hO9.below hb22
  replace hO21 := hO21.below hb22
  replace hR0 := hR0.below hb22
  replace hR1 := hR1.below hb22
  replace qbx_0 := keepcell qbx_0 hb22
  replace qbx_1 := keepcell qbx_1 hb22
  replace qbx6_0 := keepcell qbx6_0 hb22
  replace qbx6_1 := keepcell qbx6_1 hb22
  clear hb22
  go_wp2_with fail
  refine (heldIntS_any _ _ _ (1) _ hO9.rd (by omega) (by omega) (by omega)).mono ?_
  rintro e w' ⟨rfl, rfl⟩
  go_wp2_with fail
  go_ret
  exact ⟨rfl, hB22⟩

end Go.Proofs.Ytkbpehklfjnjjaa
