/-
  The walks of the exact laws of this seat, out of the contracts.
-/
import Derived.Test.YtkbpehklfjnjjaaUseA
import Derived.Test.YtkbpehklfjnjjaaFlatQuilt
import Derived.Test.YtkbpehklfjnjjaaMarkBS
set_option linter.unusedVariables false
namespace Go.Proofs.Ytkbpehklfjnjjaa
open Go.RowKit

set_option maxRecDepth 100000 in
set_option maxHeartbeats 2000000 in
theorem walk_FnExactUseOf (a0_0 a0_1 : Int) (A0 : Option Addr) (n0 c0 : Nat) (xs0 : List Spot) (A1 : Option Addr) (n1 c1 : Nat) (xs1 : List Blk) (W : World) (hw0_0 : (Lit.int .i64 a0_0).wf = true) (hw0_1 : (Lit.int .i64 a0_1).wf = true) (hk0_ : n0 ≤ c0) (hm0_ : c0 ≤ maxLen) (hR0 : Rd W A0 n0 2 xs0 spotC) (hk1_ : n1 ≤ c1) (hm1_ : c1 ≤ maxLen) (hR1 : RdB W A1 n1 xs1) (hr1_ : ∀ r ∈ xs1, r.2.length ≤ maxLen) :
    Calls Try.prog 8 #[.agg #[.int .i64 a0_0, .int .i64 a0_1, .slice A0 n0 c0], .slice A1 n1 c1] W fun e w' => e = .returned (.bool true) ∧ Below W.heap.size W w' := by
  clear hw0_0 hw0_1
  rcases (szLeft_cases (1048576) n0) with ⟨hl0, hs0⟩ | ⟨hl0, hs0⟩
  · go_enter Try.func8, Try.ntmps8
    go_wp2_with (first | (go_at_call 31; refine (szQuilt_any _ _ _ _ _ _ _ (by omega) (by omega) (by unfold maxLen at *; omega)).mono ?_; rintro e wz ⟨rfl, hbz⟩; have hqz := hbz.size; (try simp at hqz)) | (go_at_call 32; refine (szBlockS_any _ _ _ _ _ _ (RdB.below hR1 (by (repeat (first | exact Below.refl _ _ | assumption | (refine Below.drew ?_) | (refine below_drewN ?_ _) | (refine Below.alloc ?_ (by first | exact Nat.le_refl _ | (simp; done) | (simp; omega) | omega) _) | (refine Below.setCell ?_ (by first | exact Nat.le_refl _ | (simp; done) | (simp; omega) | omega) _) | (refine Below.trans ?_ (Below.mono (by assumption) (by first | exact Nat.le_refl _ | (simp; done) | (simp; omega) | omega))))))) (by omega) (by omega) (by unfold maxLen at *; omega) hmax1).mono ?_; rintro e wy ⟨rfl, hby⟩))
    go_ret
    exact ⟨rfl, by (repeat (first | exact Below.refl _ _ | assumption | (refine Below.drew ?_) | (refine below_drewN ?_ _) | (refine Below.alloc ?_ (by first | exact Nat.le_refl _ | (simp; done) | (simp; omega) | omega) _) | (refine Below.setCell ?_ (by first | exact Nat.le_refl _ | (simp; done) | (simp; omega) | omega) _) | (refine Below.trans ?_ (Below.mono (by assumption) (by first | exact Nat.le_refl _ | (simp; done) | (simp; omega) | omega)))))⟩
  have hmax1 : ∀ r ∈ xs1, r.2.length ≤ 9223372036854775807 := hr1_
  have hlen1 : (xs1.map Prod.snd).length = n1 := by rw [List.length_map]; exact hR1.len
  rcases (szLeftSS_cases (1048576 - (n0 : Int)) (xs1.map Prod.snd)) with ⟨hl1, hs1⟩ | ⟨hl1, hs1⟩
  · go_enter Try.func8, Try.ntmps8
    go_wp2_with (first | (go_at_call 31; refine (szQuilt_any _ _ _ _ _ _ _ (by omega) (by omega) (by unfold maxLen at *; omega)).mono ?_; rintro e wz ⟨rfl, hbz⟩; have hqz := hbz.size; (try simp at hqz)) | (go_at_call 32; refine (szBlockS_any _ _ _ _ _ _ (RdB.below hR1 (by (repeat (first | exact Below.refl _ _ | assumption | (refine Below.drew ?_) | (refine below_drewN ?_ _) | (refine Below.alloc ?_ (by first | exact Nat.le_refl _ | (simp; done) | (simp; omega) | omega) _) | (refine Below.setCell ?_ (by first | exact Nat.le_refl _ | (simp; done) | (simp; omega) | omega) _) | (refine Below.trans ?_ (Below.mono (by assumption) (by first | exact Nat.le_refl _ | (simp; done) | (simp; omega) | omega))))))) (by omega) (by omega) (by unfold maxLen at *; omega) hmax1).mono ?_; rintro e wy ⟨rfl, hby⟩))
    go_ret
    exact ⟨rfl, by (repeat (first | exact Below.refl _ _ | assumption | (refine Below.drew ?_) | (refine below_drewN ?_ _) | (refine Below.alloc ?_ (by first | exact Nat.le_refl _ | (simp; done) | (simp; omega) | omega) _) | (refine Below.setCell ?_ (by first | exact Nat.le_refl _ | (simp; done) | (simp; omega) | omega) _) | (refine Below.trans ?_ (Below.mono (by assumption) (by first | exact Nat.le_refl _ | (simp; done) | (simp; omega) | omega)))))⟩
  have hlens1 : lens (xs1.map Prod.snd) ≤ 1048576 := by omega
  have hrr1 : ∀ r ∈ xs1, r.2.length ≤ 1048576 := fun r hr => by obtain ⟨j, hj⟩ := List.getElem?_of_mem hr; have := lens_at (show (xs1.map Prod.snd)[j]? = some r.2 by rw [List.getElem?_map, hj]; rfl); omega
  clear hr1_
  have hol := use_small a0_0 a0_1 xs0 xs1
  have hR10_ := hR1
  have hR00_ := hR0
  go_enter Try.func8, Try.ntmps8
  go_wp2_with fail
  obtain ⟨bx, hbx⟩ : ∃ b, Hid (b = W.heap.size) := ⟨_, rfl⟩
  have qbx_0 : (W.alloc (.cells #[.int .i64 a0_0, .int .i64 a0_1, .slice A0 n0 c0] 51)).cell? ⟨bx, 0, none⟩ = some (.int .i64 a0_0) := by rw [hbx.out, cell_of_row _ _ _ _ _ _ (heap_alloc_new W _)]; rfl
  have qbx_1 : (W.alloc (.cells #[.int .i64 a0_0, .int .i64 a0_1, .slice A0 n0 c0] 51)).cell? ⟨bx, 1, none⟩ = some (.int .i64 a0_1) := by rw [hbx.out, cell_of_row _ _ _ _ _ _ (heap_alloc_new W _)]; rfl
  have qbx_2 : (W.alloc (.cells #[.int .i64 a0_0, .int .i64 a0_1, .slice A0 n0 c0] 51)).cell? ⟨bx, 2, none⟩ = some (.slice A0 n0 c0) := by rw [hbx.out, cell_of_row _ _ _ _ _ _ (heap_alloc_new W _)]; rfl
  have hb1 : Below W.heap.size W (W.alloc (.cells #[.int .i64 a0_0, .int .i64 a0_1, .slice A0 n0 c0] 51)) := (Below.refl _ _).alloc (Nat.le_refl _) _
  have hz1 : W.heap.size < (W.alloc (.cells #[.int .i64 a0_0, .int .i64 a0_1, .slice A0 n0 c0] 51)).heap.size := by simp
  rw [← hbx.out]
  generalize (W.alloc (.cells #[.int .i64 a0_0, .int .i64 a0_1, .slice A0 n0 c0] 51)) = w1 at qbx_0 qbx_1 qbx_2 hb1 hz1 ⊢
  have hB1 : Below W.heap.size W w1 := hb1
  have hs1 : W.heap.size ≤ w1.heap.size := hB1.size
  replace hR0 := hR0.below hb1
  replace hR1 := hR1.below hb1
  refine (szQuilt_any _ _ _ _ _ _ _ (by omega) (by omega) (by unfold maxLen at *; omega)).mono ?_
  rintro e w2 ⟨rfl, hb2⟩
  have hz2 := hb2.size
  have hB2 : Below W.heap.size W w2 := hB1.trans (hb2.mono hs1)
  have hs2 : W.heap.size ≤ w2.heap.size := hB2.size
  replace hR0 := hR0.below hb2
  replace hR1 := hR1.below hb2
  replace qbx_0 := keepcell qbx_0 hb2
  replace qbx_1 := keepcell qbx_1 hb2
  replace qbx_2 := keepcell qbx_2 hb2
  clear hb2
  go_wp2_with fail
  refine (szBlockS_any _ _ _ _ _ _ hR1 (by omega) (by omega) (by unfold maxLen at *; omega) hmax1).mono ?_
  rintro e w3 ⟨rfl, hb3⟩
  have hz3 := hb3.size
  have hB3 : Below W.heap.size W w3 := hB2.trans (hb3.mono hs2)
  have hs3 : W.heap.size ≤ w3.heap.size := hB3.size
  replace hR0 := hR0.below hb3
  replace hR1 := hR1.below hb3
  replace qbx_0 := keepcell qbx_0 hb3
  replace qbx_1 := keepcell qbx_1 hb3
  replace qbx_2 := keepcell qbx_2 hb3
  clear hb3
  have hn0_ : n0 ≤ 1048576 := by omega
  have hn1_ : n1 ≤ 1048576 := by omega
  go_wp2_with fail
  refine (toQuilt_any a0_0 a0_1 A0 n0 c0 xs0 _ hR0 (by omega)).mono ?_
  rintro e w4 ⟨A_4, c_4, rfl, hk_4, hO4, hb4⟩
  have hz4 := hb4.size
  have hB4 : Below W.heap.size W w4 := hB3.trans (hb4.mono hs3)
  have hs4 : W.heap.size ≤ w4.heap.size := hB4.size
  replace hR0 := hR0.below hb4
  replace hR1 := hR1.below hb4
  replace qbx_0 := keepcell qbx_0 hb4
  replace qbx_1 := keepcell qbx_1 hb4
  replace qbx_2 := keepcell qbx_2 hb4
  clear hb4
  go_wp2_with fail
  refine (toBlockS_any A1 n1 c1 xs1 _ hR1 (by omega) hrr1).mono ?_
  rintro e w5 ⟨A_5, c_5, rfl, hk_5, hO5, hb5⟩
  have hz5 := hb5.size
  have hB5 : Below W.heap.size W w5 := hB4.trans (hb5.mono hs4)
  have hs5 : W.heap.size ≤ w5.heap.size := hB5.size
  replace hO4 := hO4.below hb5
  replace hR0 := hR0.below hb5
  replace hR1 := hR1.below hb5
  replace qbx_0 := keepcell qbx_0 hb5
  replace qbx_1 := keepcell qbx_1 hb5
  replace qbx_2 := keepcell qbx_2 hb5
  clear hb5
  go_wp2_with fail
  refine (useS_any _ _ _ _ _ xs0 _ _ _ xs1 _ (hO4.rd) (by omega) (hO5.rd) (by omega) hrr1).mono ?_
  rintro e w6 ⟨A_6, c_6, rfl, hk_6, hO6, hb6⟩
  have hz6 := hb6.size
  have hB6 : Below W.heap.size W w6 := hB5.trans (hb6.mono hs5)
  have hs6 : W.heap.size ≤ w6.heap.size := hB6.size
  replace hO4 := hO4.below hb6
  replace hO5 := hO5.below hb6
  replace hR0 := hR0.below hb6
  replace hR1 := hR1.below hb6
  replace qbx_0 := keepcell qbx_0 hb6
  replace qbx_1 := keepcell qbx_1 hb6
  replace qbx_2 := keepcell qbx_2 hb6
  clear hb6
  go_wp2_with fail
  refine (toQuilt_any a0_0 a0_1 A0 n0 c0 xs0 _ hR0 (by omega)).mono ?_
  rintro e w7 ⟨A_7, c_7, rfl, hk_7, hO7, hb7⟩
  have hz7 := hb7.size
  have hB7 : Below W.heap.size W w7 := hB6.trans (hb7.mono hs6)
  have hs7 : W.heap.size ≤ w7.heap.size := hB7.size
  replace hO6 := hO6.below hb7
  replace hR0 := hR0.below hb7
  replace hR1 := hR1.below hb7
  replace qbx_0 := keepcell qbx_0 hb7
  replace qbx_1 := keepcell qbx_1 hb7
  replace qbx_2 := keepcell qbx_2 hb7
  clear hb7
  go_wp2_with fail
  obtain ⟨bx7, hbx7⟩ : ∃ b, Hid (b = w7.heap.size) := ⟨_, rfl⟩
  have qbx7_0 : (w7.alloc (.cells #[.int .i64 a0_0, .int .i64 a0_1, .slice A_7 n0 c_7] 58)).cell? ⟨bx7, 0, none⟩ = some (.int .i64 a0_0) := by rw [hbx7.out, cell_of_row _ _ _ _ _ _ (heap_alloc_new w7 _)]; rfl
  have qbx7_1 : (w7.alloc (.cells #[.int .i64 a0_0, .int .i64 a0_1, .slice A_7 n0 c_7] 58)).cell? ⟨bx7, 1, none⟩ = some (.int .i64 a0_1) := by rw [hbx7.out, cell_of_row _ _ _ _ _ _ (heap_alloc_new w7 _)]; rfl
  have qbx7_2 : (w7.alloc (.cells #[.int .i64 a0_0, .int .i64 a0_1, .slice A_7 n0 c_7] 58)).cell? ⟨bx7, 2, none⟩ = some (.slice A_7 n0 c_7) := by rw [hbx7.out, cell_of_row _ _ _ _ _ _ (heap_alloc_new w7 _)]; rfl
  have hb8 : Below w7.heap.size w7 (w7.alloc (.cells #[.int .i64 a0_0, .int .i64 a0_1, .slice A_7 n0 c_7] 58)) := (Below.refl _ _).alloc (Nat.le_refl _) _
  have hz8 : w7.heap.size < (w7.alloc (.cells #[.int .i64 a0_0, .int .i64 a0_1, .slice A_7 n0 c_7] 58)).heap.size := by simp
  rw [← hbx7.out]
  generalize (w7.alloc (.cells #[.int .i64 a0_0, .int .i64 a0_1, .slice A_7 n0 c_7] 58)) = w8 at qbx7_0 qbx7_1 qbx7_2 hb8 hz8 ⊢
  have hB8 : Below W.heap.size W w8 := hB7.trans (hb8.mono hs7)
  have hs8 : W.heap.size ≤ w8.heap.size := hB8.size
  replace hO6 := hO6.below hb8
  replace hO7 := hO7.below hb8
  replace hR0 := hR0.below hb8
  replace hR1 := hR1.below hb8
  replace qbx_0 := keepcell qbx_0 hb8
  replace qbx_1 := keepcell qbx_1 hb8
  replace qbx_2 := keepcell qbx_2 hb8
  refine (toBlockS_any A1 n1 c1 xs1 _ hR1 (by omega) hrr1).mono ?_
  rintro e w9 ⟨A_9, c_9, rfl, hk_9, hO9, hb9⟩
  have hz9 := hb9.size
  have hB9 : Below W.heap.size W w9 := hB8.trans (hb9.mono hs8)
  have hs9 : W.heap.size ≤ w9.heap.size := hB9.size
  replace hO6 := hO6.below hb9
  replace hO7 := hO7.below hb9
  replace hR0 := hR0.below hb9
  replace hR1 := hR1.below hb9
  replace qbx_0 := keepcell qbx_0 hb9
  replace qbx_1 := keepcell qbx_1 hb9
  replace qbx_2 := keepcell qbx_2 hb9
  replace qbx7_0 := keepcell qbx7_0 hb9
  replace qbx7_1 := keepcell qbx7_1 hb9
  replace qbx7_2 := keepcell qbx7_2 hb9
  clear hb9
  go_wp2_with fail
  refine (useI_any _ _ _ _ _ xs0 _ _ _ xs1 _ (hO7.rd) (by omega) (hO9.rd) (by omega) hrr1).mono ?_
  rintro e w10 ⟨A_10, c_10, rfl, hk_10, hO10, hb10⟩
  have hz10 := hb10.size
  have hB10 : Below W.heap.size W w10 := hB9.trans (hb10.mono hs9)
  have hs10 : W.heap.size ≤ w10.heap.size := hB10.size
  replace hO6 := hO6.below hb10
  replace hO7 := hO7.below hb10
  replace hO9 := hO9.below hb10
  replace hR0 := hR0.below hb10
  replace hR1 := hR1.below hb10
  replace qbx_0 := keepcell qbx_0 hb10
  replace qbx_1 := keepcell qbx_1 hb10
  replace qbx_2 := keepcell qbx_2 hb10
  replace qbx7_0 := keepcell qbx7_0 hb10
  replace qbx7_1 := keepcell qbx7_1 hb10
  replace qbx7_2 := keepcell qbx7_2 hb10
  clear hb10
  go_wp2_with fail
  refine (eqIntS_any _ _ (useOf a0_0 a0_1 xs0 xs1).length _ _ (useOf a0_0 a0_1 xs0 xs1) _ hO10.rd hO6.rd (by omega)).mono ?_
  rintro e w11 ⟨rfl, hb11⟩
  have hz11 := hb11.size
  have hB11 : Below W.heap.size W w11 := hB10.trans (hb11.mono hs10)
  have hs11 : W.heap.size ≤ w11.heap.size := hB11.size
  replace hO6 := hO6.below hb11
  replace hO7 := hO7.below hb11
  replace hO9 := hO9.below hb11
  replace hO10 := hO10.below hb11
  replace hR0 := hR0.below hb11
  replace hR1 := hR1.below hb11
  replace qbx_0 := keepcell qbx_0 hb11
  replace qbx_1 := keepcell qbx_1 hb11
  replace qbx_2 := keepcell qbx_2 hb11
  replace qbx7_0 := keepcell qbx7_0 hb11
  replace qbx7_1 := keepcell qbx7_1 hb11
  replace qbx7_2 := keepcell qbx7_2 hb11
  clear hb11
  go_wp2_with fail
  go_region_held3 (fun v => v.cell? ⟨bx, 0, none⟩ = some (.int .i64 a0_0) ∧ v.cell? ⟨bx, 1, none⟩ = some (.int .i64 a0_1) ∧ v.cell? ⟨bx, 2, none⟩ = some (.slice A0 n0 c0) ∧ v.cell? ⟨bx7, 0, none⟩ = some (.int .i64 a0_0) ∧ v.cell? ⟨bx7, 1, none⟩ = some (.int .i64 a0_1) ∧ v.cell? ⟨bx7, 2, none⟩ = some (.slice A_7 n0 c_7))
    (first | (go_split_ands; refine ⟨?_, ?_, ?_, ?_, ?_, ?_⟩ <;> first | (exact keepcell (by assumption) (by assumption)) | (go_keep)) | (go_keep))
    (first
      | (go_at_call 34; refine (toQuilt_any a0_0 a0_1 A0 n0 c0 xs0 _ ?_ (by omega)).mono ?_; (first | exact hR0 | exact hR0.below ((Below.refl _ _).drew)); rintro e w12 ⟨A_12, c_12, rfl, hk_12, hO12, hb12⟩)
      | (go_at_call 37; refine (eqQuilt_any _ _ _ _ n0 _ _ xs0 _ (Own.rd (Own.below hO7 (show Below w11.heap.size w11 w12 from ⟨hb12.os, hb12.tape, hb12.output, hb12.size, hb12.block⟩))) hO12.rd (by omega)).mono ?_; rintro e w13 ⟨rfl, hb13⟩))
  all_goals go_split_ands
  have hb12 : Below w11.heap.size w11 w12 := ⟨hb12.os, hb12.tape, hb12.output, hb12.size, hb12.block⟩
  have hz12 := hb12.size
  have hB12 : Below W.heap.size W w12 := hB11.trans (hb12.mono hs11)
  have hs12 : W.heap.size ≤ w12.heap.size := hB12.size
  replace hO6 := hO6.below hb12
  replace hO7 := hO7.below hb12
  replace hO9 := hO9.below hb12
  replace hO10 := hO10.below hb12
  replace hR0 := hR0.below hb12
  replace hR1 := hR1.below hb12
  replace qbx_0 := keepcell qbx_0 hb12
  replace qbx_1 := keepcell qbx_1 hb12
  replace qbx_2 := keepcell qbx_2 hb12
  replace qbx7_0 := keepcell qbx7_0 hb12
  replace qbx7_1 := keepcell qbx7_1 hb12
  replace qbx7_2 := keepcell qbx7_2 hb12
  clear hb12
  have hz13 := hb13.size
  have hB13 : Below W.heap.size W w13 := hB12.trans (hb13.mono hs12)
  have hs13 : W.heap.size ≤ w13.heap.size := hB13.size
  replace hO6 := hO6.below hb13
  replace hO7 := hO7.below hb13
  replace hO9 := hO9.below hb13
  replace hO10 := hO10.below hb13
  replace hR0 := hR0.below hb13
  replace hR1 := hR1.below hb13
  replace qbx_0 := keepcell qbx_0 hb13
  replace qbx_1 := keepcell qbx_1 hb13
  replace qbx_2 := keepcell qbx_2 hb13
  replace qbx7_0 := keepcell qbx7_0 hb13
  replace qbx7_1 := keepcell qbx7_1 hb13
  replace qbx7_2 := keepcell qbx7_2 hb13
  clear hb13
  go_wp2_with fail
  refine (toBlockS_any A1 n1 c1 xs1 _ hR1 (by omega) hrr1).mono ?_
  rintro e w14 ⟨A_14, c_14, rfl, hk_14, hO14, hb14⟩
  have hz14 := hb14.size
  have hB14 : Below W.heap.size W w14 := hB13.trans (hb14.mono hs13)
  have hs14 : W.heap.size ≤ w14.heap.size := hB14.size
  replace hO6 := hO6.below hb14
  replace hO7 := hO7.below hb14
  replace hO9 := hO9.below hb14
  replace hO10 := hO10.below hb14
  replace hR0 := hR0.below hb14
  replace hR1 := hR1.below hb14
  replace qbx_0 := keepcell qbx_0 hb14
  replace qbx_1 := keepcell qbx_1 hb14
  replace qbx_2 := keepcell qbx_2 hb14
  replace qbx7_0 := keepcell qbx7_0 hb14
  replace qbx7_1 := keepcell qbx7_1 hb14
  replace qbx7_2 := keepcell qbx7_2 hb14
  clear hb14
  go_wp2_with fail
  refine (eqBlockS_any _ _ n1 _ _ xs1 _ hO9.rd hO14.rd (by omega) hrr1).mono ?_
  rintro e w15 ⟨rfl, hb15⟩
  have hz15 := hb15.size
  have hB15 : Below W.heap.size W w15 := hB14.trans (hb15.mono hs14)
  have hs15 : W.heap.size ≤ w15.heap.size := hB15.size
  replace hO6 := hO6.below hb15
  replace hO7 := hO7.below hb15
  replace hO9 := hO9.below hb15
  replace hO10 := hO10.below hb15
  replace hO14 := hO14.below hb15
  replace hR0 := hR0.below hb15
  replace hR1 := hR1.below hb15
  replace qbx_0 := keepcell qbx_0 hb15
  replace qbx_1 := keepcell qbx_1 hb15
  replace qbx_2 := keepcell qbx_2 hb15
  replace qbx7_0 := keepcell qbx7_0 hb15
  replace qbx7_1 := keepcell qbx7_1 hb15
  replace qbx7_2 := keepcell qbx7_2 hb15
  clear hb15
  go_wp2_with fail
  refine (markQuilt_any _ _ _ _ _ _ _ (1) _ _ hO7 (by omega) (by omega) (by omega)).mono ?_
  rintro e w16 ⟨rfl, hM, hg16⟩
  clear hO7
  have hO7 := hM
  clear hM
  have hz16 := hg16.size
  have hB16 : Below W.heap.size W w16 := below_only hB15 hg16 hs15 (by have := hbx.out; have := hbx7.out; omega)
  have hs16 : W.heap.size ≤ w16.heap.size := hB16.size
  replace hO6 := hO6.only hg16 (by have := hbx.out; have := hbx7.out; omega)
  replace hO9 := hO9.only hg16 (by have := hbx.out; have := hbx7.out; omega)
  replace hO10 := hO10.only hg16 (by have := hbx.out; have := hbx7.out; omega)
  replace qbx_0 := only_cell qbx_0 hg16 (by have := hbx.out; have := hbx7.out; omega)
  replace qbx_1 := only_cell qbx_1 hg16 (by have := hbx.out; have := hbx7.out; omega)
  replace qbx_2 := only_cell qbx_2 hg16 (by have := hbx.out; have := hbx7.out; omega)
  replace qbx7_0 := only_cell qbx7_0 hg16 (by have := hbx.out; have := hbx7.out; omega)
  replace qbx7_1 := only_cell qbx7_1 hg16 (by have := hbx.out; have := hbx7.out; omega)
  replace qbx7_2 := only_cell qbx7_2 hg16 (by have := hbx.out; have := hbx7.out; omega)
  replace hR0 := hR00_.below hB16
  replace hR1 := hR10_.below hB16
  go_wp2_with fail
  refine (markBlockS_any _ _ _ _ _ (1 + 2 * (n0 : Int)) xs1 _ hO9 (by omega) (by omega) (by omega) (by omega)).mono ?_
  rintro e w17 ⟨rfl, hM, hg17⟩
  clear hO9
  have hO9 := hM
  clear hM
  have hz17 := hg17.size
  have hB17 : Below W.heap.size W w17 := below_only hB16 hg17 hs16 (by have := hbx.out; have := hbx7.out; omega)
  have hs17 : W.heap.size ≤ w17.heap.size := hB17.size
  replace hO6 := hO6.only hg17 (by have := hbx.out; have := hbx7.out; omega)
  replace hO10 := hO10.only hg17 (by have := hbx.out; have := hbx7.out; omega)
  replace qbx_0 := only_cell qbx_0 hg17 (by have := hbx.out; have := hbx7.out; omega)
  replace qbx_1 := only_cell qbx_1 hg17 (by have := hbx.out; have := hbx7.out; omega)
  replace qbx_2 := only_cell qbx_2 hg17 (by have := hbx.out; have := hbx7.out; omega)
  replace qbx7_0 := only_cell qbx7_0 hg17 (by have := hbx.out; have := hbx7.out; omega)
  replace qbx7_1 := only_cell qbx7_1 hg17 (by have := hbx.out; have := hbx7.out; omega)
  replace qbx7_2 := only_cell qbx7_2 hg17 (by have := hbx.out; have := hbx7.out; omega)
  replace hR0 := hR00_.below hB17
  replace hR1 := hR10_.below hB17
  go_wp2_with fail
  refine (eqIntS_any _ _ (useOf a0_0 a0_1 xs0 xs1).length _ _ (useOf a0_0 a0_1 xs0 xs1) _ hO10.rd hO6.rd (by omega)).mono ?_
  rintro e w18 ⟨rfl, hb18⟩
  have hz18 := hb18.size
  have hB18 : Below W.heap.size W w18 := hB17.trans (hb18.mono hs17)
  have hs18 : W.heap.size ≤ w18.heap.size := hB18.size
  replace hO6 := hO6.below hb18
  replace hO10 := hO10.below hb18
  replace hR0 := hR0.below hb18
  replace hR1 := hR1.below hb18
  replace qbx_0 := keepcell qbx_0 hb18
  replace qbx_1 := keepcell qbx_1 hb18
  replace qbx_2 := keepcell qbx_2 hb18
  replace qbx7_0 := keepcell qbx7_0 hb18
  replace qbx7_1 := keepcell qbx7_1 hb18
  replace qbx7_2 := keepcell qbx7_2 hb18
  clear hb18
  go_wp2_with fail
  refine (markIntS_any _ _ _ _ _ (1) _ _ hO10 (by omega) (by omega) (by omega)).mono ?_
  rintro e w19 ⟨rfl, hM, hg19⟩
  clear hO10
  have hO10 := hM
  clear hM
  have hz19 := hg19.size
  have hB19 : Below W.heap.size W w19 := below_only hB18 hg19 hs18 (by have := hbx.out; have := hbx7.out; omega)
  have hs19 : W.heap.size ≤ w19.heap.size := hB19.size
  replace hO6 := hO6.only hg19 (by have := hbx.out; have := hbx7.out; omega)
  replace qbx_0 := only_cell qbx_0 hg19 (by have := hbx.out; have := hbx7.out; omega)
  replace qbx_1 := only_cell qbx_1 hg19 (by have := hbx.out; have := hbx7.out; omega)
  replace qbx_2 := only_cell qbx_2 hg19 (by have := hbx.out; have := hbx7.out; omega)
  replace qbx7_0 := only_cell qbx7_0 hg19 (by have := hbx.out; have := hbx7.out; omega)
  replace qbx7_1 := only_cell qbx7_1 hg19 (by have := hbx.out; have := hbx7.out; omega)
  replace qbx7_2 := only_cell qbx7_2 hg19 (by have := hbx.out; have := hbx7.out; omega)
  replace hR0 := hR00_.below hB19
  replace hR1 := hR10_.below hB19
  go_wp2_with fail
  refine (heldIntS_any _ _ _ (1) _ hO10.rd (by omega) (by omega) (by omega)).mono ?_
  rintro e w' ⟨rfl, rfl⟩
  go_wp2_with fail
  refine (toQuilt_any a0_0 a0_1 A0 n0 c0 xs0 _ hR0 (by omega)).mono ?_
  rintro e w20 ⟨A_20, c_20, rfl, hk_20, hO20, hb20⟩
  have hz20 := hb20.size
  have hB20 : Below W.heap.size W w20 := hB19.trans (hb20.mono hs19)
  have hs20 : W.heap.size ≤ w20.heap.size := hB20.size
  replace hO6 := hO6.below hb20
  replace hO10 := hO10.below hb20
  replace hR0 := hR0.below hb20
  replace hR1 := hR1.below hb20
  replace qbx_0 := keepcell qbx_0 hb20
  replace qbx_1 := keepcell qbx_1 hb20
  replace qbx_2 := keepcell qbx_2 hb20
  replace qbx7_0 := keepcell qbx7_0 hb20
  replace qbx7_1 := keepcell qbx7_1 hb20
  replace qbx7_2 := keepcell qbx7_2 hb20
  clear hb20
  go_wp2_with fail
  refine (toBlockS_any A1 n1 c1 xs1 _ hR1 (by omega) hrr1).mono ?_
  rintro e w21 ⟨A_21, c_21, rfl, hk_21, hO21, hb21⟩
  have hz21 := hb21.size
  have hB21 : Below W.heap.size W w21 := hB20.trans (hb21.mono hs20)
  have hs21 : W.heap.size ≤ w21.heap.size := hB21.size
  replace hO6 := hO6.below hb21
  replace hO10 := hO10.below hb21
  replace hO20 := hO20.below hb21
  replace hR0 := hR0.below hb21
  replace hR1 := hR1.below hb21
  replace qbx_0 := keepcell qbx_0 hb21
  replace qbx_1 := keepcell qbx_1 hb21
  replace qbx_2 := keepcell qbx_2 hb21
  replace qbx7_0 := keepcell qbx7_0 hb21
  replace qbx7_1 := keepcell qbx7_1 hb21
  replace qbx7_2 := keepcell qbx7_2 hb21
  clear hb21
  go_wp2_with fail
  refine (useI_any _ _ _ _ _ xs0 _ _ _ xs1 _ (hO20.rd) (by omega) (hO21.rd) (by omega) hrr1).mono ?_
  rintro e w22 ⟨A_22, c_22, rfl, hk_22, hO22, hb22⟩
  have hz22 := hb22.size
  have hB22 : Below W.heap.size W w22 := hB21.trans (hb22.mono hs21)
  have hs22 : W.heap.size ≤ w22.heap.size := hB22.size
  replace hO6 := hO6.below hb22
  replace hO10 := hO10.below hb22
  replace hO20 := hO20.below hb22
  replace hO21 := hO21.below hb22
  replace hR0 := hR0.below hb22
  replace hR1 := hR1.below hb22
  replace qbx_0 := keepcell qbx_0 hb22
  replace qbx_1 := keepcell qbx_1 hb22
  replace qbx_2 := keepcell qbx_2 hb22
  replace qbx7_0 := keepcell qbx7_0 hb22
  replace qbx7_1 := keepcell qbx7_1 hb22
  replace qbx7_2 := keepcell qbx7_2 hb22
  clear hb22
  go_wp2_with fail
  refine (eqIntS_any _ _ (useOf a0_0 a0_1 xs0 xs1).length _ _ (useOf a0_0 a0_1 xs0 xs1) _ hO22.rd hO6.rd (by omega)).mono ?_
  rintro e w23 ⟨rfl, hb23⟩
  have hz23 := hb23.size
  have hB23 : Below W.heap.size W w23 := hB22.trans (hb23.mono hs22)
  have hs23 : W.heap.size ≤ w23.heap.size := hB23.size
  replace hO6 := hO6.below hb23
  replace hO10 := hO10.below hb23
  replace hO22 := hO22.below hb23
  replace hR0 := hR0.below hb23
  replace hR1 := hR1.below hb23
  replace qbx_0 := keepcell qbx_0 hb23
  replace qbx_1 := keepcell qbx_1 hb23
  replace qbx_2 := keepcell qbx_2 hb23
  replace qbx7_0 := keepcell qbx7_0 hb23
  replace qbx7_1 := keepcell qbx7_1 hb23
  replace qbx7_2 := keepcell qbx7_2 hb23
  clear hb23
  go_wp2_with fail
  refine (heldIntS_any _ _ _ (1) _ hO10.rd (by omega) (by omega) (by omega)).mono ?_
  rintro e w' ⟨rfl, rfl⟩
  go_wp2_with fail
  go_ret
  exact ⟨rfl, hB23⟩

end Go.Proofs.Ytkbpehklfjnjjaa
